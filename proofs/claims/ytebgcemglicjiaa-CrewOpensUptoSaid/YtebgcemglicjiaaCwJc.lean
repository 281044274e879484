/- The tail behind the join, and the whole run. No condition of ours. -/
import Derived.Test.YtebgcemglicjiaaCwE
import Derived.Test.YtebgcemglicjiaaCwJb
/- Hands that take jobs from a closed channel's buffer, and the starter that waits for them: where each stands, and what holds all along. No condition of ours. -/
namespace Go.Proofs.Ytebgcemglicjiaa
open Go.Conc Go.ConcN
open Go.ConcR (KK WgAt stA smA rd wr mk DC0 Bk g_of_ofEvents)
structure Cfg where
  ty : TypeId
  Wg : Nat
  Ob : Nat
  Ch : Nat
  B : Nat
  oty : TypeId
  n : Nat
  h : Nat
  cap : Nat
  jobv : Nat → Value
  ansA : Nat → Value
  ansB : Nat → Value
  w0 : World
/-- The blocks that stand. -/
def Cfg.Rd (c : Cfg) (b : Nat) : Prop := b < c.B ∧ b ≠ c.Wg ∧ b ≠ c.Ob ∧ b ≠ c.Ch
def Cfg.K (c : Cfg) (w : World) : Prop := (∀ b, c.Rd b → w.heap[b]? = c.w0.heap[b]?) ∧ w.os = c.w0.os ∧ w.output = c.w0.output
/-- What is outside the memory stands. -/
def Cfg.Ko (c : Cfg) (w : World) : Prop := w.os = c.w0.os ∧ w.output = c.w0.output
structure Cfg.Ok (c : Cfg) : Prop where
  wg : c.Wg < c.B
  ob : c.Ob < c.B
  ch : c.Ch < c.B
  wo : c.Wg ≠ c.Ob
  wc : c.Wg ≠ c.Ch
  oc : c.Ob ≠ c.Ch
  h8 : c.h < 1000
/-- The jobs that nobody has yet. -/
def Cfg.buf (c : Cfg) (r : Nat) : Array Value := ((List.range (c.n - r)).map fun i => c.jobv (r + i)).toArray
def put2 (cs : Array Value) (a : Nat) (x y : Value) : Array Value := (cs.setIfInBounds (2 * a) x).setIfInBounds (2 * a + 1) y
theorem put2_size (cs : Array Value) (a : Nat) (x y : Value) : (put2 cs a x y).size = cs.size := by simp [put2]
theorem put2_here {cs : Array Value} {a n : Nat} (x y : Value) (h : cs.size = 2 * n) (ha : a < n) : (put2 cs a x y)[2 * a]? = some x ∧ (put2 cs a x y)[2 * a + 1]? = some y := by
  unfold put2
  constructor
  · rw [Array.getElem?_setIfInBounds_ne (by omega), Array.getElem?_setIfInBounds_self_of_lt (by omega)]
  · rw [Array.getElem?_setIfInBounds_self_of_lt (by simp; omega)]
theorem put2_other {cs : Array Value} {a b : Nat} (x y : Value) (h : b ≠ a) : (put2 cs a x y)[2 * b]? = cs[2 * b]? ∧ (put2 cs a x y)[2 * b + 1]? = cs[2 * b + 1]? := by
  unfold put2
  constructor
  · rw [Array.getElem?_setIfInBounds_ne (by omega), Array.getElem?_setIfInBounds_ne (by omega)]
  · rw [Array.getElem?_setIfInBounds_ne (by omega), Array.getElem?_setIfInBounds_ne (by omega)]
/-- All answers are in their places. -/
def Cfg.Full (c : Cfg) (w : World) : Prop := c.K w ∧ ∃ cs, w.heap[c.Ob]? = some (.cells cs c.oty) ∧ cs.size = 2 * c.n ∧ ∀ a, a < c.n → cs[2 * a]? = some (c.ansA a) ∧ cs[2 * a + 1]? = some (c.ansB a)
section
variable (P : Program) (c : Cfg) (Anch : (Nat → Prop) → Goroutine → World → Prop)
/-! ### a hand -/
def AtStore (a : Nat) (own : Nat → Prop) (g : Goroutine) (w : World) : Prop :=
  g.status = .running ∧ ∀ cs, w.heap[c.Ob]? = some (.cells cs c.oty) → cs.size = 2 * c.n →
    ∃ g' es, stepG P false g w = .go g' { w with heap := w.heap.setIfInBounds c.Ob (.cells (put2 cs a (c.ansA a) (c.ansB a)) c.oty) } es ∧
      (∀ e ∈ es, ∃ off, e = ⟨.cell ⟨c.Ob, off, none⟩, true, false⟩ ∧ (off = 2 * a ∨ off = 2 * a + 1)) ∧ WK P false c.K c.Rd Anch own g' w
def AtOver (_ : Nat → Prop) (g : Goroutine) (w : World) : Prop := g.status = .running ∧ (WgLive c.ty c.Wg w → Go1 P false (RM c.ty c.Wg) DC0 (LR0 P c.ty c.Wg) w g)
def AtRecv (own : Nat → Prop) (g : Goroutine) (w : World) : Prop :=
  g.status = .running ∧ ∃ z g₂ shape, stepG P false g w = .comm g₂ #[rcase c.Ch z] true shape w #[] ∧
    (∀ a, a < c.n → WK P false c.K c.Rd (AtStore P c Anch a) own (g₂.finishComm P #[rcase c.Ch z] shape 0 (c.jobv a) true) w) ∧
    WK P false c.K c.Rd (AtOver P c) own (g₂.finishComm P #[rcase c.Ch z] shape 0 z false) w
inductive Ph where
  | idle | busy (a : Nat) | over | lib
structure WX where
  d : WD
  own : Nat → Prop
  got : Nat → Prop
  ph : Ph
  rk : Tr
def Ph.wt : Ph → Nat
  | .idle => 2
  | .busy _ => 3
  | .over => 1
  | .lib => 0
inductive Sit : WX → Goroutine → World → Prop
  | idle {own got : Nat → Prop} {rk : Tr} {g : Goroutine} {w : World} : WayK P false c.K c.Rd Anch rk own g w → Sit ⟨⟨7, 0, 0⟩, own, got, .idle, rk⟩ g w
  | busy {own got : Nat → Prop} {rk : Tr} {g : Goroutine} {w : World} {a : Nat} : a < c.n → got a → WayK P false c.K c.Rd (AtStore P c Anch a) rk own g w → Sit ⟨⟨7, 0, 0⟩, own, got, .busy a, rk⟩ g w
  | over {own got : Nat → Prop} {rk : Tr} {g : Goroutine} {w : World} : WayK P false c.K c.Rd (AtOver P c) rk own g w → Sit ⟨⟨7, 0, 0⟩, own, got, .over, rk⟩ g w
  | lib {own got : Nat → Prop} {rk : Tr} {g : Goroutine} {w : World} {s m d : Nat} : LSit P c.ty c.Wg s m d g w → Sit ⟨⟨s, m, d⟩, own, got, .lib, rk⟩ g w
/-! ### the starter -/
variable (AnchW : Goroutine → World → Prop) (Post : Value → World → Prop)
def AtEnd (own : Nat → Prop) (g : Goroutine) (w : World) : Prop := g.status = .running ∧ ∃ v es, stepG P true g w = .ended (.done v) w es ∧ (∀ e ∈ es, Mine own e) ∧ Post v w
def TailP (g : Goroutine) (w : World) : Prop := g.status = .running ∧ (c.Full w → ∃ own, (∀ b, own b → b < w.heap.size ∧ b ≠ c.Wg) ∧ WK P true c.Ko (fun _ => False) (AtEnd P Post) own g w)
def Child (g : Goroutine) (w : World) : Prop := WK P false c.K c.Rd Anch (fun _ => False) g w
def FinP (g : Goroutine) (w : World) : Prop := ∃ m, Goes P true (RM c.ty c.Wg) (DM c.Wg) (MKd P c.ty c.Wg AnchW) m g w
inductive CS : CTag → Nat → Nat → Nat → Goroutine → World → Prop
  | skd {r m : Nat} {g : Goroutine} {w : World} : r < c.h → Goes P true (RM c.ty c.Wg) (DM c.Wg) (MKdS P c.ty c.Wg (Child P c Anch) (Starts P c.ty c.Wg (Child P c Anch) (FinP P c AnchW) r)) m g w → CS (.sp r 5) (c.h - (r + 1)) m 0 g w
  | sa1 {r m : Nat} {g : Goroutine} {w : World} : r < c.h → Goes P true (RM c.ty c.Wg) (DM c.Wg) (MA1 P c.ty c.Wg (Child P c Anch) (Starts P c.ty c.Wg (Child P c Anch) (FinP P c AnchW) r)) m g w → CS (.sp r 4) (c.h - (r + 1)) m 1 g w
  | ske {r m : Nat} {g : Goroutine} {w : World} : r < c.h → Goes P true (RM c.ty c.Wg) (DM c.Wg) (MKeS P c.ty c.Wg (Child P c Anch) (Starts P c.ty c.Wg (Child P c Anch) (FinP P c AnchW) r)) m g w → CS (.sp r 3) (c.h - (r + 1)) m 1 g w
  | sgo {r m : Nat} {g : Goroutine} {w : World} : r < c.h → Goes P true (RM c.ty c.Wg) (DM c.Wg) (MGo P (Child P c Anch) (Starts P c.ty c.Wg (Child P c Anch) (FinP P c AnchW) r)) m g w → CS (.sp r 2) (c.h - (r + 1)) m 0 g w
  | kd {m : Nat} {g : Goroutine} {w : World} : Goes P true (RM c.ty c.Wg) (DM c.Wg) (MKd P c.ty c.Wg AnchW) m g w → CS .kd c.h m 0 g w
  | anch {m : Nat} {g : Goroutine} {w : World} : Goes P true (RM c.ty c.Wg) (DM c.Wg) AnchW m g w → CS .anch c.h m 1 g w
  | w1 {m : Nat} {g : Goroutine} {w : World} : Goes P true (RM c.ty c.Wg) (DM c.Wg) (MW1 P c.ty c.Wg AnchW (TailP P c Post)) m g w → CS .w1 c.h m 1 g w
  | w2 {vs m : Nat} {g : Goroutine} {w : World} : Goes P true (RM c.ty c.Wg) (DM c.Wg) (MW2 P c.ty c.Wg AnchW (TailP P c Post) vs) m g w → CS (.w2 vs) c.h m 1 g w
  | w3 {m : Nat} {g : Goroutine} {w : World} : Goes P true (RM c.ty c.Wg) (DM c.Wg) (MW3 P c.ty c.Wg (TailP P c Post)) m g w → CS .w3 c.h (m + 1) 1 g w
  | blk {g : Goroutine} {w : World} : (∀ w₁, RM c.ty c.Wg w w₁ → MW3 P c.ty c.Wg (TailP P c Post) g w₁) → CS .blk c.h 0 1 { g with status := .blocked } w
  | w4 {m : Nat} {g : Goroutine} {w : World} : Goes P true (RM c.ty c.Wg) (DM c.Wg) (MW4 P c.ty c.Wg (TailP P c Post)) m g w → CS .w4 c.h m 1 g w
  | ke {m : Nat} {g : Goroutine} {w : World} : Goes P true (RM c.ty c.Wg) (DM c.Wg) (MKe P c.ty c.Wg (TailP P c Post)) m g w → CS .ke c.h m 1 g w
  | acq {m : Nat} {g : Goroutine} {w : World} : Goes P true (RM c.ty c.Wg) (DM c.Wg) (MAcq P c.ty c.Wg (TailP P c Post)) m g w → CS .acq c.h m 0 g w
  | ret {m : Nat} {g : Goroutine} {w : World} : Goes P true (RM c.ty c.Wg) (DM c.Wg) (TailP P c Post) m g w → CS .ret c.h m 0 g w
/-- The starter, its tail told apart. -/
inductive MS : CTag → Nat → Nat → Nat → Nat → (Nat → Prop) → Tr → Goroutine → World → Prop
  | com {tag : CTag} {j f d : Nat} {own : Nat → Prop} {rk : Tr} {g : Goroutine} {w : World} : CS P c Anch AnchW Post tag j f d g w → MS tag j f d 1 own rk g w
  | tail {own : Nat → Prop} {rk : Tr} {g : Goroutine} {w : World} : (∀ b, own b → b < w.heap.size ∧ b ≠ c.Wg) → WayK P true c.Ko (fun _ => False) (AtEnd P Post) rk own g w → MS .ret c.h 0 0 0 own rk g w
end
/-! ### what holds of the world -/
structure WC (c : Cfg) (j : Nat) (w : World) (X : Nat → WX) (r : Nat) : Prop where
  base : c.K w
  hB : c.B ≤ w.heap.size
  rle : r ≤ c.n
  ch : ∃ s rr tm, w.heap[c.Ch]? = some (.chan c.cap (c.buf r) true s rr tm)
  ob : ∃ cs, w.heap[c.Ob]? = some (.cells cs c.oty) ∧ cs.size = 2 * c.n ∧ ∀ a, a < r → (∀ i, i < j → (X i).ph ≠ .busy a) → cs[2 * a]? = some (c.ansA a) ∧ cs[2 * a + 1]? = some (c.ansB a)
  got : ∀ i a, (X i).got a → a < r
  gotinj : ∀ i i' a, (X i).got a → (X i').got a → i = i'
  own : ∀ i b, (X i).own b → b < w.heap.size ∧ c.B ≤ b
  owninj : ∀ i i' b, (X i).own b → (X i').own b → i = i'
/-- What a step has done to the blocks that are not its maker's, nor of those three. -/
structure Eff (c : Cfg) (own' : Nat → Prop) (w w' : World) : Prop where
  size : w.heap.size ≤ w'.heap.size
  os : w'.os = w.os
  output : w'.output = w.output
  keep : ∀ b, b < w.heap.size → ¬ own' b → b ≠ c.Wg → b ≠ c.Ob → b ≠ c.Ch → w'.heap[b]? = w.heap[b]?
theorem Eff.refl (c : Cfg) (own' : Nat → Prop) (w : World) : Eff c own' w w := ⟨Nat.le_refl _, rfl, rfl, fun _ _ _ _ _ _ => rfl⟩
theorem Eff.wg {c : Cfg} {w w' : World} (own' : Nat → Prop) (h : Aside c.Wg w w') : Eff c own' w w' := ⟨by rw [h.size]; exact Nat.le_refl _, h.os, h.output, fun b _ _ hb _ _ => h.block b hb⟩
section
variable {c : Cfg} {j r r' : Nat} {w w' : World} {X : Nat → WX}
theorem WC.rly (H : WC c j w X r) (O : c.Ok) {i : Nat} {own' : Nat → Prop} (e : Eff c own' w w') (new : ∀ b, own' b → (X i).own b ∨ w.heap.size ≤ b) : ∀ i', i' ≠ i → Rly (X i').own w w' := fun i' hne =>
  ⟨fun b hb => by
    have hb' := H.own i' b hb
    refine e.keep b hb'.1 (fun h => ?_) (by have := O.wg; omega) (by have := O.ob; omega) (by have := O.ch; omega)
    rcases new b h with h | h
    · exact hne (H.owninj _ _ b hb h)
    · omega, e.size⟩
theorem WC.upd (H : WC c j w X r) (_ : c.Ok) {i : Nat} {x' : WX} (e : Eff c x'.own w w') (new : ∀ b, x'.own b → (X i).own b ∨ (w.heap.size ≤ b ∧ b < w'.heap.size))
    (gnew : ∀ q, x'.got q → (X i).got q ∨ (q = r ∧ r' = r + 1)) (hr : r ≤ r') (hn : r' ≤ c.n) (hch : ∃ s rr tm, w'.heap[c.Ch]? = some (.chan c.cap (c.buf r') true s rr tm))
    (hob : ∃ cs, w'.heap[c.Ob]? = some (.cells cs c.oty) ∧ cs.size = 2 * c.n ∧ ∀ a, a < r' → (∀ k, k < j → (upd X i x' k).ph ≠ .busy a) → cs[2 * a]? = some (c.ansA a) ∧ cs[2 * a + 1]? = some (c.ansB a)) : WC c j w' (upd X i x') r' where
  base := ⟨fun b hb => by
    rw [e.keep b (by have := H.hB; have := hb.1; omega) (fun h => ?_) hb.2.1 hb.2.2.1 hb.2.2.2]
    · exact H.base.1 b hb
    · rcases new b h with h | h
      · have := (H.own _ _ h).2; have := hb.1; omega
      · have := H.hB; have := hb.1; omega, e.os.trans H.base.2.1, e.output.trans H.base.2.2⟩
  hB := Nat.le_trans H.hB e.size
  rle := hn
  ch := hch
  ob := hob
  got k a h := by
    by_cases hk : k = i
    · subst hk; rw [upd_same] at h
      rcases gnew a h with h | ⟨rfl, rfl⟩
      · have := H.got _ _ h; omega
      · omega
    · rw [upd_ne X _ hk] at h; have := H.got _ _ h; omega
  gotinj k k' a h h' := by
    by_cases hk : k = i <;> by_cases hk' : k' = i
    · rw [hk, hk']
    · subst hk; rw [upd_same] at h; rw [upd_ne X _ hk'] at h'
      rcases gnew a h with h | ⟨rfl, _⟩
      · exact H.gotinj _ _ _ h h'
      · have := H.got _ _ h'; omega
    · subst hk'; rw [upd_same] at h'; rw [upd_ne X _ hk] at h
      rcases gnew a h' with h' | ⟨rfl, _⟩
      · exact H.gotinj _ _ _ h h'
      · have := H.got _ _ h; omega
    · rw [upd_ne X _ hk] at h; rw [upd_ne X _ hk'] at h'
      exact H.gotinj _ _ _ h h'
  own k b h := by
    by_cases hk : k = i
    · subst hk; rw [upd_same] at h
      rcases new b h with h | h
      · have := H.own _ _ h; have := e.size; omega
      · have := H.hB; omega
    · rw [upd_ne X _ hk] at h; have := H.own _ _ h; have := e.size; omega
  owninj k k' b h h' := by
    by_cases hk : k = i <;> by_cases hk' : k' = i
    · rw [hk, hk']
    · subst hk; rw [upd_same] at h; rw [upd_ne X _ hk'] at h'
      rcases new b h with h | h
      · exact H.owninj _ _ _ h h'
      · have := H.own _ _ h'; omega
    · subst hk'; rw [upd_same] at h'; rw [upd_ne X _ hk] at h
      rcases new b h' with h' | h'
      · exact H.owninj _ _ _ h h'
      · have := H.own _ _ h; omega
    · rw [upd_ne X _ hk] at h; rw [upd_ne X _ hk'] at h'
      exact H.owninj _ _ _ h h'
/-- A step that turns at most the group's block. -/
theorem WC.wg (H : WC c j w X r) (O : c.Ok) (h : Aside c.Wg w w') : WC c j w' X r := by
  have e : Eff c (fun _ => False) w w' := .wg _ h
  refine ⟨⟨fun b hb => (h.block b hb.2.1).trans (H.base.1 b hb), h.os.trans H.base.2.1, h.output.trans H.base.2.2⟩, Nat.le_trans H.hB e.size, H.rle, ?_, ?_, H.got, H.gotinj, fun i b hb => by have := H.own i b hb; have := e.size; omega, H.owninj⟩
  · rw [h.block _ (Ne.symm O.wc)]; exact H.ch
  · rw [h.block _ (Ne.symm O.wo)]; exact H.ob
theorem WC.at (H : WC c j w X r) (d : Nat) : WC c j (w.at d) X r := ⟨H.base, H.hB, H.rle, H.ch, H.ob, H.got, H.gotinj, H.own, H.owninj⟩
end
end Go.Proofs.Ytebgcemglicjiaa

/- Hands and their starter: what holds of the trace all along. No condition of ours. -/
namespace Go.Proofs.Ytebgcemglicjiaa
open Go.Conc Go.ConcN
open Go.ConcR (KK WgAt stA smA rd wr mk DC0 Bk g_of_ofEvents)
def LocW (c : Cfg) (x : WX) (l : Loc) : Prop := (∃ a : Addr, l = .cell a ∧ (x.own a.block ∨ (a.block = c.Ob ∧ ∃ q, x.got q ∧ (a.off = 2 * q ∨ a.off = 2 * q + 1)))) ∨ ∃ b, l = .obj b ∧ x.own b
def OwnT (c : Cfg) (X : Nat → WX) (jn : Bool) (k : Nat) (l : Loc) : Prop := jn = false ∧ ∃ i, k = i + 1 ∧ LocW c (X i) l
def RdT (c : Cfg) (jn : Bool) (_ : Nat) (l : Loc) : Prop := jn = false ∧ ∃ a : Addr, l = .cell a ∧ c.Rd a.block
theorem apartT {c : Cfg} {j r : Nat} {w : World} {X : Nat → WX} (H : WC c j w X r) (O : c.Ok) (jn : Bool) : Apart (ShN c.Wg) (OwnT c X jn) (RdT c jn) where
  own := by
    rintro k k' l ⟨_, i, rfl, h⟩ ⟨_, i', rfl, h'⟩
    suffices i = i' by rw [this]
    rcases h with ⟨a, rfl, h⟩ | ⟨b, rfl, h⟩ <;> rcases h' with ⟨a', e', h'⟩ | ⟨b', e', h'⟩ <;> cases e'
    · rcases h with h | ⟨h, q, hq, ho⟩ <;> rcases h' with h' | ⟨h', q', hq', ho'⟩
      · exact H.owninj _ _ _ h h'
      · have := (H.own _ _ h).2; have := O.ob; omega
      · have := (H.own _ _ h').2; have := O.ob; omega
      · obtain rfl : q = q' := by omega
        exact H.gotinj _ _ _ hq hq'
    · exact H.owninj _ _ _ h h'
  ownRd := by
    rintro k k' l ⟨_, i, rfl, h⟩ ⟨_, a', rfl, h'⟩
    rcases h with ⟨a, e, h⟩ | ⟨b, e, h⟩ <;> cases e
    rcases h with h | ⟨h, _⟩
    · have := (H.own _ _ h).2; have := h'.1; omega
    · exact h'.2.2.1 h
  ownSh := by
    rintro k l ⟨_, i, rfl, h⟩ ⟨a', rfl, h'⟩
    rcases h with ⟨a, e, h⟩ | ⟨b, e, h⟩ <;> cases e
    rcases h with h | ⟨h, _⟩
    · have := (H.own _ _ h).2; have := O.wg; omega
    · have := O.wo; omega
  rdSh := by
    rintro k l ⟨_, a, rfl, h⟩ ⟨a', e, h'⟩
    cases e
    exact h.2.1 h'
structure TC (c : Cfg) (j : Nat) (t : Trace) (X : Nat → WX) (sz r d0 : Nat) (jn : Bool) : Prop where
  ct : CT (ShN c.Wg) (OwnT c X jn) (RdT c jn) t j
  norel : NoRelease (stA c.Wg) t
  deaf0 : Deaf t 0 = d0
  deafW : ∀ i, i < j → Deaf t (i + 1) = (X i).d.deaf
  rel : ∀ i, i < j → (X i).d.stage ≤ 6 → ∃ q, RelBy (stA c.Wg) t (i + 1) q
  tb : jn = false → ∀ i a, touchAt t i = some a → (∀ ad, a.loc = .cell ad → ad.block < sz ∧ (ad.block = c.Ob → ∃ q, q < r ∧ (ad.off = 2 * q ∨ ad.off = 2 * q + 1))) ∧ ∀ b, a.loc = .obj b → b < sz
  np : ∀ (i : Nat) (op : MemOp) (x : Touch), t[i]? = some op → op.act.touch? = some x → ¬ ShN c.Wg x.loc → op.g ≠ 0 → x.kind ≠ .atomic ∧ x.loc.isMemory = true
theorem touchAt_app {t u : Trace} {i : Nat} {a : Touch} (h : touchAt (t ++ u) i = some a) : touchAt t i = some a ∨ ∃ op ∈ u, op.act.touch? = some a := by
  obtain ⟨z, hz, hza⟩ := touch_of h
  rcases getElem?_append_cases hz with ⟨_, hz'⟩ | ⟨_, hzu⟩
  · exact .inl (by rw [touchAt_of hz']; exact hza)
  · exact .inr ⟨z, hzu, hza⟩
section
variable {c : Cfg} {j r r' sz sz' d0 : Nat} {t u : Trace} {X : Nat → WX} {jn : Bool}
theorem TC.worker {w' : World} (T : TC c j t X sz r d0 jn) (O : c.Ok) {i : Nat} {x' : WX} (H' : WC c j w' (upd X i x') r') (hi : i < j) (hu : ∀ op ∈ u, op.g = i + 1)
    (hok : ∀ op ∈ u, ∀ x, op.act.touch? = some x → (ShN c.Wg x.loc ∧ x.kind ≠ .plain ∧ x.kind ≠ .said) ∨ (jn = false ∧ x.kind = .plain ∧ (LocW c x' x.loc ∨ ((∃ a : Addr, x.loc = .cell a ∧ c.Rd a.block) ∧ x.write = false))))
    (hm : ∀ op ∈ u, op.act ≠ .mark (.release (stA c.Wg))) (old : ∀ b, (X i).own b → x'.own b) (gold : ∀ q, (X i).got q → x'.got q)
    (new : ∀ b, x'.own b → (X i).own b ∨ sz ≤ b) (gnew : ∀ q, x'.got q → (X i).got q ∨ r ≤ q) (hsz : sz ≤ w'.heap.size) (hr : r ≤ r')
    (hde : Deaf (t ++ u) (i + 1) = x'.d.deaf) (hrel : x'.d.stage ≤ 6 → ∃ q, RelBy (stA c.Wg) (t ++ u) (i + 1) q) : TC c j (t ++ u) (upd X i x') w'.heap.size r' d0 jn where
  ct := by
    have g : CT (ShN c.Wg) (OwnT c (upd X i x') jn) (RdT c jn) t j := ct_grow T.ct (by
      rintro k l ⟨h0, i', rfl, h⟩
      refine ⟨h0, i', rfl, ?_⟩
      by_cases e : i' = i
      · subst e
        rw [upd_same]
        rcases h with ⟨a, rfl, h⟩ | ⟨b, rfl, h⟩
        · rcases h with h | ⟨h, q, hq, ho⟩
          · exact .inl ⟨a, rfl, .inl (old _ h)⟩
          · exact .inl ⟨a, rfl, .inr ⟨h, q, gold _ hq, ho⟩⟩
        · exact .inr ⟨b, rfl, old _ h⟩
      · rw [upd_ne X _ e]; exact h) (by
      rintro k l ⟨h0, i', rfl, h⟩
      by_cases e : i' = i
      · subst e
        rw [upd_same] at h
        rcases h with ⟨a, rfl, h⟩ | ⟨b, rfl, h⟩
        · rcases h with h | ⟨h, q, hq, ho⟩
          · rcases new _ h with h | h
            · exact .inl ⟨h0, i', rfl, .inl ⟨a, rfl, .inl h⟩⟩
            · exact .inr fun z y hy ey => by have := ((T.tb h0 z y hy).1 a ey).1; omega
          · rcases gnew _ hq with hq | hq
            · exact .inl ⟨h0, i', rfl, .inl ⟨a, rfl, .inr ⟨h, q, hq, ho⟩⟩⟩
            · exact .inr fun z y hy ey => by obtain ⟨q', h1, h2⟩ := ((T.tb h0 z y hy).1 a ey).2 h; omega
        · rcases new _ h with h | h
          · exact .inl ⟨h0, i', rfl, .inr ⟨b, rfl, h⟩⟩
          · exact .inr fun z y hy ey => by have := (T.tb h0 z y hy).2 b ey; omega
      · rw [upd_ne X _ e] at h
        exact .inl ⟨h0, i', rfl, h⟩)
    refine g.appW (apartT H' O jn) (k := i + 1) (by omega) (by omega) fun op hop => ⟨hu op hop, fun x hx => ?_⟩
    rcases hok op hop x hx with h | ⟨h0, _, h | h⟩
    · exact .inl h
    · exact .inr (.inl ⟨h0, i, rfl, by rw [upd_same]; exact h⟩)
    · exact .inr (.inr ⟨⟨h0, h.1⟩, h.2⟩)
  norel := T.norel.app hm
  deaf0 := by rw [Deaf_other t (g' := i + 1) (by omega) _ hu, T.deaf0]
  deafW k hk := by
    by_cases e : k = i
    · subst e; rw [upd_same]; exact hde
    · rw [Deaf_other t (g' := i + 1) (by omega) _ hu, T.deafW k hk, upd_ne X _ e]
  rel k hk hs := by
    by_cases e : k = i
    · subst e; rw [upd_same] at hs; exact hrel hs
    · rw [upd_ne X _ e] at hs
      obtain ⟨q, hq⟩ := T.rel k hk hs
      exact ⟨q, hq.appOther hu (by omega)⟩
  tb h0 z a ha := by
    rcases touchAt_app ha with h | ⟨op, hop, h⟩
    · obtain ⟨h1, h2⟩ := T.tb h0 z a h
      refine ⟨fun ad e => ?_, fun b e => by have := h2 b e; omega⟩
      obtain ⟨h3, h4⟩ := h1 ad e
      exact ⟨by omega, fun eo => by obtain ⟨q, h5, h6⟩ := h4 eo; exact ⟨q, by omega, h6⟩⟩
    · have hB := H'.hB
      rcases hok op hop a h with ⟨⟨ad, e, hw⟩, _⟩ | ⟨_, _, h | ⟨⟨ad, e, h⟩, _⟩⟩
      · rw [e]
        refine ⟨fun ad' e' => ?_, fun b e' => by cases e'⟩
        cases e'
        exact ⟨by have := O.wg; omega, fun eo => absurd (hw.symm.trans eo) O.wo⟩
      · rcases h with ⟨ad, e, h⟩ | ⟨b, e, h⟩ <;> rw [e]
        · refine ⟨fun ad' e' => ?_, fun b e' => by cases e'⟩
          cases e'
          rcases h with h | ⟨h, q, hq, ho⟩
          · have := H'.own i _ (by rw [upd_same]; exact h)
            exact ⟨this.1, fun eo => by have := O.ob; omega⟩
          · have := H'.got i q (by rw [upd_same]; exact hq)
            exact ⟨by have := O.ob; omega, fun _ => ⟨q, this, ho⟩⟩
        · refine ⟨fun ad' e' => (by cases e'), fun b' e' => ?_⟩
          cases e'
          exact (H'.own i _ (by rw [upd_same]; exact h)).1
      · rw [e]
        refine ⟨fun ad' e' => ?_, fun b e' => by cases e'⟩
        cases e'
        exact ⟨by have := h.1; omega, fun eo => absurd eo h.2.2.1⟩
  np z op x hz hx hs hg := by
    rcases getElem?_append_cases hz with ⟨_, hz'⟩ | ⟨_, hzu⟩
    · exact T.np z op x hz' hx hs hg
    · rcases hok op hzu x hx with h | ⟨_, hk, h⟩
      · exact absurd h.1 hs
      · refine ⟨by rw [hk]; simp, ?_⟩
        rcases h with (⟨a, e, _⟩ | ⟨b, e, _⟩) | ⟨⟨a, e, _⟩, _⟩ <;> rw [e] <;> rfl
/-- The starter's step that touches the group's cells at most, and not plainly. -/
theorem TC.main {w : World} (T : TC c j t X sz r d0 jn) (O : c.Ok) (H : WC c j w X r) (hu : ∀ op ∈ u, op.g = 0) (hok : ∀ op ∈ u, ∀ x, op.act.touch? = some x → ShN c.Wg x.loc ∧ x.kind ≠ .plain)
    (hm : ∀ op ∈ u, op.act ≠ .mark (.release (stA c.Wg))) (hsz : sz = w.heap.size) {d1 : Nat} (hd : Deaf (t ++ u) 0 = d1) : TC c j (t ++ u) X sz r d1 jn where
  ct := T.ct.app0 (apartT H O jn) fun op hop => ⟨hu op hop, fun x hx => .inl (hok op hop x hx)⟩
  norel := T.norel.app hm
  deaf0 := hd
  deafW k hk := by rw [Deaf_other t (g' := 0) (by omega) _ hu, T.deafW k hk]
  rel k hk hs := let ⟨q, hq⟩ := T.rel k hk hs; ⟨q, hq.appOther hu (by omega)⟩
  tb h0 z a ha := by
    rcases touchAt_app ha with h | ⟨op, hop, h⟩
    · exact T.tb h0 z a h
    · obtain ⟨⟨ad, e, hw⟩, _⟩ := hok op hop a h
      rw [e]
      refine ⟨fun ad' e' => ?_, fun b e' => by cases e'⟩
      cases e'
      exact ⟨by have := O.wg; have := H.hB; omega, fun eo => absurd (hw.symm.trans eo) O.wo⟩
  np z op x hz hx hs hg := by
    rcases getElem?_append_cases hz with ⟨_, hz'⟩ | ⟨_, hzu⟩
    · exact T.np z op x hz' hx hs hg
    · exact absurd (hu op hzu) hg
/-- The starter's step behind the join. -/
theorem TC.tail {_ : Nat → Prop} (T : TC c j t X sz r d0 true) (hu : ∀ op ∈ u, op.g = 0) (hok : ∀ op ∈ u, ∀ x, op.act.touch? = some x → ¬ ShN c.Wg x.loc)
    (hm : ∀ op ∈ u, op.act ≠ .mark (.release (stA c.Wg))) {d1 sz' r' : Nat} (hd : Deaf (t ++ u) 0 = d1) : TC c j (t ++ u) X sz' r' d1 true where
  ct := T.ct.app0 ⟨fun _ _ _ h => absurd h.1 (by decide), fun _ _ _ h => absurd h.1 (by decide), fun _ _ h => absurd h.1 (by decide), fun _ _ h => absurd h.1 (by decide)⟩ fun op hop => ⟨hu op hop, fun x hx => .inr ⟨hok op hop x hx, fun _ _ _ h => absurd h.1 (by decide), fun _ _ _ _ h => absurd h.1 (by decide)⟩⟩
  norel := T.norel.app hm
  deaf0 := hd
  deafW k hk := by rw [Deaf_other t (g' := 0) (by omega) _ hu, T.deafW k hk]
  rel k hk hs := let ⟨q, hq⟩ := T.rel k hk hs; ⟨q, hq.appOther hu (by omega)⟩
  tb h0 := by cases h0
  np z op x hz hx hs hg := by
    rcases getElem?_append_cases hz with ⟨_, hz'⟩ | ⟨_, hzu⟩
    · exact T.np z op x hz' hx hs hg
    · exact absurd (hu op hzu) hg
theorem TC.join (T : TC c j t X sz r d0 jn) (ha : AcqAll c.Wg j t) : TC c j t X sz r d0 true where
  ct := by
    have h := ct_join T.ct ha T.norel T.np
    exact ct_grow (Rd := fun _ _ => False) h (fun _ _ h => h.elim) (fun _ _ h => absurd h.1 (by decide)) |> fun g => ⟨g.quiet, g.own, fun k k1 kj l hl => absurd hl.1 (by decide), fun l hs _ => g.free l hs fun k k1 kj => ⟨fun h => absurd h.1 (by decide), fun h => h.elim⟩, fun l hs _ => g.mine l hs fun k k1 kj h => absurd h.1 (by decide), g.nr, g.gs⟩
  norel := T.norel
  deaf0 := T.deaf0
  deafW := T.deafW
  rel := T.rel
  tb h0 := by cases h0
  np := T.np
theorem TC.fork {w : World} (T : TC c j t X sz r 0 false) (O : c.Ok) (H : WC c j w X r) {x y : MemOp} (hx : x.g = 0 ∧ x.act = .go (j + 1)) (hy : y.g = j + 1 ∧ y.act = .start) {x' : WX} (h0 : ∀ l, ¬ LocW c x' l) (hX : ∀ l, ¬ LocW c (X j) l) (hd : x'.d = ⟨7, 0, 0⟩) :
    TC c (j + 1) (t ++ #[x, y]) (upd X j x') sz r 0 false := by
  have hm : ∀ op ∈ #[x, y], op = x ∨ op = y := by intro op hop; simpa using hop
  have hst : ∀ op ∈ #[x, y], op.act ≠ .mark .disable ∧ op.act ≠ .mark .enable := by
    intro op hop
    rcases hm op hop with rfl | rfl
    · rw [hx.2]; exact ⟨by simp, by simp⟩
    · rw [hy.2]; exact ⟨by simp, by simp⟩
  have hnt : ∀ op ∈ #[x, y], ∀ z, op.act.touch? = some z → False := by
    intro op hop z hz
    rcases hm op hop with rfl | rfl
    · rw [hx.2] at hz; cases hz
    · rw [hy.2] at hz; cases hz
  have eo : ∀ k l, OwnT c (upd X j x') false k l ↔ OwnT c X false k l := by
    intro k l
    constructor
    · rintro ⟨h, i, rfl, hl⟩
      by_cases e : i = j
      · subst e; rw [upd_same] at hl; exact absurd hl (h0 l)
      · rw [upd_ne X _ e] at hl; exact ⟨h, i, rfl, hl⟩
    · rintro ⟨h, i, rfl, hl⟩
      by_cases e : i = j
      · subst e; exact absurd hl (hX l)
      · exact ⟨h, i, rfl, by rw [upd_ne X _ e]; exact hl⟩
  have hc := T.ct.fork (apartT H O false) hx hy T.deaf0
  refine ⟨ct_grow hc (fun k l h => (eo k l).2 h) (fun k l h => .inl ((eo k l).1 h)), T.norel.app fun op hop => ?_, by rw [Deaf_still t 0 _ hst, T.deaf0], fun i hi => ?_, fun i hi hs => ?_, fun h z a ha => ?_, fun z op a hz ha hs hg => ?_⟩
  · rcases hm op hop with rfl | rfl
    · rw [hx.2]; simp
    · rw [hy.2]; simp
  · rw [Deaf_still t _ _ hst]
    by_cases e : i = j
    · subst e
      rw [upd_same, hd]
      exact Deaf_absent fun a op ha e => by have := T.ct.gs a op ha; omega
    · rw [T.deafW i (by omega), upd_ne X _ e]
  · by_cases e : i = j
    · subst e; rw [upd_same, hd] at hs; simp at hs
    · rw [upd_ne X _ e] at hs
      obtain ⟨q, hq⟩ := T.rel i (by omega) hs
      refine ⟨q, hq.appNot fun op hop => ?_⟩
      rcases hm op hop with rfl | rfl
      · rw [hx.1]; omega
      · rw [hy.1]; omega
  · rcases touchAt_app ha with h' | ⟨op, hop, h'⟩
    · exact T.tb h z a h'
    · exact (hnt op hop a h').elim
  · rcases getElem?_append_cases hz with ⟨_, hz'⟩ | ⟨_, hzu⟩
    · exact T.np z op a hz' ha hs hg
    · exact (hnt op hzu a ha).elim
end
end Go.Proofs.Ytebgcemglicjiaa

/- Hands and their starter: the invariant, and the law of a hand's step. No condition of ours. -/
namespace Go.Proofs.Ytebgcemglicjiaa
open Go.Conc Go.ConcN
open Go.ConcR (KK WgAt stA smA rd wr mk DC0 Bk g_of_ofEvents)
section
variable {P : Program} {c : Cfg} {Anch : (Nat → Prop) → Goroutine → World → Prop}
theorem LSit.rely {ty : TypeId} {Wg s m d : Nat} {g : Goroutine} {w w₁ : World} (h : LSit P ty Wg s m d g w) (hr : RM ty Wg w w₁) : LSit P ty Wg s m d g w₁ := by
  have tr : ∀ a b c, RM ty Wg a b → RM ty Wg b c → RM ty Wg a c := fun _ _ _ h1 h2 => h1.trans h2
  cases h with
  | r0 h => exact .r0 (Goes.rely tr h hr)
  | k1 h => exact .k1 (Goes.rely tr h hr)
  | d1 h => exact .d1 (Goes.rely tr h hr)
  | d2 h => exact .d2 (Goes.rely tr h hr)
  | d3 h => exact .d3 (Goes.rely tr h hr)
  | d4 h => exact .d4 (Goes.rely tr h hr)
  | quit h => exact .quit h
theorem LSit.running {ty : TypeId} {Wg s m d : Nat} {g : Goroutine} {w : World} (h : LSit P ty Wg s m d g w) (hs : s ≠ 1) : g.status = .running := by
  cases h with
  | r0 h => exact Goes.running (fun _ _ x => x.1) w (RM.refl _ _ w) h
  | k1 h => exact Goes.running (fun _ _ x => x.1) w (RM.refl _ _ w) h
  | d1 h => exact Goes.running (fun _ _ x => x.1) w (RM.refl _ _ w) h
  | d2 h => exact Goes.running (fun _ _ x => x.1) w (RM.refl _ _ w) h
  | d3 h => exact Goes.running (fun _ _ x => x.1) w (RM.refl _ _ w) h
  | d4 h => exact Goes.running (fun _ _ x => x.1) w (RM.refl _ _ w) h
  | quit h => exact absurd rfl hs
theorem LSit.status {ty : TypeId} {Wg s m d : Nat} {g : Goroutine} {w : World} (h : LSit P ty Wg s m d g w) : g.status = .running ∨ g.status = .finished := by
  by_cases hs : s = 1
  · subst hs
    cases h with | quit h => exact h.status
  · exact .inl (h.running hs)
theorem WayK.running {main : Bool} {K : World → Prop} {Rd : Nat → Prop} {Stop : (Nat → Prop) → Goroutine → World → Prop} {t : Tr} {own : Nat → Prop} {g : Goroutine} {w : World} (h : WayK P main K Rd Stop t own g w) (hk : K w) (hs : Stop own g w → g.status = .running) : g.status = .running := by
  cases t with
  | leaf => exact hs (h w (Rly.refl _ _) hk)
  | node f => obtain ⟨_, _, _, ⟨_, _, h, _⟩, _⟩ := h w (Rly.refl _ _) hk; exact h
theorem Sit.rely {x : WX} {g : Goroutine} {w w₁ : World} (h : Sit P c Anch x g w) (hr : Rly x.own w w₁) (hm : RM c.ty c.Wg w w₁) : Sit P c Anch x g w₁ := by
  cases h with
  | idle h => exact .idle (h.rely hr)
  | busy h1 h2 h => exact .busy h1 h2 (h.rely hr)
  | over h => exact .over (h.rely hr)
  | lib h => exact .lib (h.rely hm)
theorem Sit.running (hA : ∀ own g w, Anch own g w → AtRecv P c Anch own g w) {x : WX} {g : Goroutine} {w : World} (h : Sit P c Anch x g w) (hk : c.K w) (h1 : x.d.stage ≠ 1) : g.status = .running := by
  cases h with
  | idle h => exact h.running hk fun h => (hA _ _ _ h).1
  | busy _ _ h => exact h.running hk fun h => h.1
  | over h => exact h.running hk fun h => h.1
  | lib h => exact h.running h1
theorem Sit.status (hA : ∀ own g w, Anch own g w → AtRecv P c Anch own g w) {x : WX} {g : Goroutine} {w : World} (h : Sit P c Anch x g w) (hk : c.K w) : g.status = .running ∨ g.status = .finished := by
  cases h with
  | idle h => exact .inl (h.running hk fun h => (hA _ _ _ h).1)
  | busy _ _ h => exact .inl (h.running hk fun h => h.1)
  | over h => exact .inl (h.running hk fun h => h.1)
  | lib h => exact h.status
variable {AnchW : Goroutine → World → Prop} {Post : Value → World → Prop}
theorem CS.rely {tag : CTag} {j f d : Nat} {a : Goroutine} {w w' : World} (h : CS P c Anch AnchW Post tag j f d a w) (hr : RM c.ty c.Wg w w') : CS P c Anch AnchW Post tag j f d a w' := by
  have tr : ∀ x y z, RM c.ty c.Wg x y → RM c.ty c.Wg y z → RM c.ty c.Wg x z := fun _ _ _ h1 h2 => h1.trans h2
  cases h with
  | skd hn h => exact .skd hn (Goes.rely tr h hr)
  | sa1 hn h => exact .sa1 hn (Goes.rely tr h hr)
  | ske hn h => exact .ske hn (Goes.rely tr h hr)
  | sgo hn h => exact .sgo hn (Goes.rely tr h hr)
  | kd h => exact .kd (Goes.rely tr h hr)
  | anch h => exact .anch (Goes.rely tr h hr)
  | w1 h => exact .w1 (Goes.rely tr h hr)
  | w2 h => exact .w2 (Goes.rely tr h hr)
  | w3 h => exact .w3 (Goes.rely tr h hr)
  | blk h => exact .blk (fun w₂ h₂ => h w₂ (hr.trans h₂))
  | w4 h => exact .w4 (Goes.rely tr h hr)
  | ke h => exact .ke (Goes.rely tr h hr)
  | acq h => exact .acq (Goes.rely tr h hr)
  | ret h => exact .ret (Goes.rely tr h hr)
theorem CS.status (hAr : ∀ g w, AnchW g w → g.status = .running) {tag : CTag} {j f d : Nat} {a : Goroutine} {w : World} (h : CS P c Anch AnchW Post tag j f d a w) : (a.status = .running ∧ tag ≠ .blk) ∨ (a.status = .blocked ∧ a.offers = none ∧ tag = .blk) := by
  cases h with
  | skd _ h => exact .inl ⟨Goes.running (fun _ _ x => x.1) w (RM.refl _ _ w) h, by simp⟩
  | sa1 _ h => exact .inl ⟨Goes.running (fun _ _ x => x.1) w (RM.refl _ _ w) h, by simp⟩
  | ske _ h => exact .inl ⟨Goes.running (fun _ _ x => x.1) w (RM.refl _ _ w) h, by simp⟩
  | sgo _ h => exact .inl ⟨Goes.running (fun _ _ x => x.1) w (RM.refl _ _ w) h, by simp⟩
  | kd h => exact .inl ⟨Goes.running (fun _ _ x => x.1) w (RM.refl _ _ w) h, by simp⟩
  | anch h => exact .inl ⟨Goes.running hAr w (RM.refl _ _ w) h, by simp⟩
  | w1 h => exact .inl ⟨Goes.running (fun _ _ x => x.1) w (RM.refl _ _ w) h, by simp⟩
  | w2 h => exact .inl ⟨Goes.running (fun _ _ x => x.1) w (RM.refl _ _ w) h, by simp⟩
  | w3 h => exact .inl ⟨Goes.running (fun _ _ x => x.1) w (RM.refl _ _ w) h, by simp⟩
  | blk h => exact .inr ⟨rfl, (h w (RM.refl _ _ w)).2.1, rfl⟩
  | w4 h => exact .inl ⟨Goes.running (fun _ _ x => x.1) w (RM.refl _ _ w) h, by simp⟩
  | ke h => exact .inl ⟨Goes.running (fun _ _ x => x.1) w (RM.refl _ _ w) h, by simp⟩
  | acq h => exact .inl ⟨Goes.running (fun _ _ x => x.1) w (RM.refl _ _ w) h, by simp⟩
  | ret h => exact .inl ⟨Goes.running (fun _ _ x => x.1) w (RM.refl _ _ w) h, by simp⟩
theorem CS.wokenBy (hAr : ∀ g w, AnchW g w → g.status = .running) {tag : CTag} {j f d : Nat} {a : Goroutine} {w w' : World} (h : CS P c Anch AnchW Post tag j f d a w) (hr : RM c.ty c.Wg w w') (g g' : Goroutine) :
    ∃ tag' f', CS P c Anch AnchW Post tag' j f' d (woken P g g' w' a) w' ∧ f' ≤ f + 1 ∧ (tag' = tag ∨ (tag = .blk ∧ tag' = .w3)) ∧ (mayWake P g = true → g'.status = .running → tag' ≠ .blk) := by
  have h' := h.rely hr
  unfold Go.Conc.woken
  split
  · rcases h'.status hAr with ⟨hs, hne⟩ | ⟨_, _, rfl⟩
    · exact ⟨tag, f, by rw [again_running _ (.inl hs)]; exact h', by omega, .inl rfl, fun _ _ => hne⟩
    · cases h' with
      | blk hb =>
        rename_i g0
        have h3 := hb w' (RM.refl _ _ w')
        exact ⟨.w3, 0 + 1, by rw [Go.ConcR.again_blocked h3.1 h3.2.1]; exact .w3 (Goes.stop hb), by omega, .inr ⟨rfl, rfl⟩, fun _ _ => by simp⟩
  · rename_i hc
    exact ⟨tag, f, h', by omega, .inl rfl, fun h1 h2 => absurd (by simp [h1, h2]) hc⟩
end
/-! ### the invariant in company -/
def isRet : CTag → Bool
  | .ret => true
  | _ => false
theorem isRet_w3 {tag tag' : CTag} (e : tag' = tag ∨ (tag = .blk ∧ tag' = .w3)) : isRet tag' = isRet tag := by
  rcases e with rfl | ⟨rfl, rfl⟩ <;> rfl
def Mu : Type := Nat × Nat × (Nat → Tr) × Nat
def Mlt : Mu → Mu → Prop := Prod.Lex (· < ·) (Prod.Lex (· < ·) (Prod.Lex (vlt 1000) (· < ·)))
theorem Mlt_wf : WellFounded Mlt := (Prod.lex Nat.lt_wfRel (Prod.lex Nat.lt_wfRel (Prod.lex ⟨vlt 1000, vlt_wf 1000⟩ Nat.lt_wfRel))).wf
def Wsum (j : Nat) (X : Nat → WX) : Nat := sumTo j fun i => (X i).ph.wt
def ds (X : Nat → WX) (i : Nat) : WD := (X i).d
theorem ds_upd (X : Nat → WX) (i : Nat) (x : WX) : ds (upd X i x) = upd (ds X) i x.d := by
  funext k
  by_cases e : k = i
  · subst e; simp [ds, upd_same]
  · simp [ds, upd_ne _ _ e]
def mu1 (c : Cfg) (tag : CTag) (j r f0 : Nat) (X : Nat → WX) : Mu := (phi c.h (Vc j (ds X)) tag + Ssum j (ds X) + 1, 2 * (c.n - r) + Wsum j X, fun i => (X i).rk, f0 + 2 * Fsum j (ds X))
section
variable (P : Program) (c : Cfg) (Anch : (Nat → Prop) → Goroutine → World → Prop) (AnchW : Goroutine → World → Prop) (Post : Value → World → Prop)
structure Co (j : Nat) (gs : Array Goroutine) (w : World) (t : Trace) (X : Nat → WX) (r d0 : Nat) (tag : CTag) (st sm : Int) : Prop where
  jh : j ≤ c.h
  size : gs.size = j + 1
  wk : ∀ i, i < j → ∃ g, gs[i + 1]? = some g ∧ Sit P c Anch (X i) g w
  wc : WC c j w X r
  tc : TC c j t X w.heap.size r d0 (isRet tag)
  wg : WgAt c.ty c.Wg w st sm
  mode : Go.ConcN.Mode j (ds X) tag st sm
  acq : tag = .ret → AcqAll c.Wg j t
  out : ∀ i, j ≤ i → ∀ l, ¬ LocW c (X i) l
  done : ∀ i, i < j → (X i).ph = .over ∨ (X i).ph = .lib → r = c.n
def Inv1 (μ : Mu) (m : Machine) (t : Trace) : Prop :=
  ∃ gs w sl j X r tag f0 d0 a st sm, m = crowd gs w sl ∧ gs[0]? = some a ∧ CS P c Anch AnchW Post tag j f0 d0 a w ∧ Co P c Anch j gs w t X r d0 tag st sm ∧ μ = mu1 c tag j r f0 X
end
end Go.Proofs.Ytebgcemglicjiaa

/- Hands and their starter: whatever step of a hand's. No condition of ours. -/
namespace Go.Proofs.Ytebgcemglicjiaa
open Go.Conc Go.ConcN
open Go.ConcR (KK WgAt stA smA rd wr mk DC0 Bk g_of_ofEvents bk_of_mute ofEvent_loc_mark)
theorem rm_of {c : Cfg} {w w' : World} (h : w'.heap[c.Wg]? = w.heap[c.Wg]?) (hs : w.heap.size ≤ w'.heap.size) : RM c.ty c.Wg w w' := ⟨fun ⟨st, sm, hl⟩ => ⟨st, sm, h.trans hl⟩, hs⟩
theorem rm_wg {c : Cfg} {w w' : World} (h : Aside c.Wg w w') (hl : WgLive c.ty c.Wg w') : RM c.ty c.Wg w w' := ⟨fun _ => hl, by rw [h.size]; exact Nat.le_refl _⟩
/-- How a hand's step comes nearer to the end. -/
def Nearer (c : Cfg) (x x' : WX) (r r' : Nat) : Prop :=
  (x'.d.stage < x.d.stage ∧ cnt x'.d ≤ cnt x.d) ∨
  (x'.d.stage = x.d.stage ∧ (2 * (c.n - r') + x'.ph.wt < 2 * (c.n - r) + x.ph.wt ∨ (2 * (c.n - r') + x'.ph.wt = 2 * (c.n - r) + x.ph.wt ∧ (Tr.lt x'.rk x.rk ∨ (x'.rk = x.rk ∧ x'.d.fuel + 1 = x.d.fuel)))))
theorem mu1_less {c : Cfg} (O : c.Ok) {tag tag' : CTag} {j r r' f0 f' i : Nat} {X : Nat → WX} {x' : WX} (hi : i < j) (hj : j ≤ c.h) (ht : tag' = tag ∨ (tag = .blk ∧ tag' = .w3)) (hf : f' ≤ f0 + 1) (hn : Nearer c (X i) x' r r') :
    Mlt (mu1 c tag' j r' f' (upd X i x')) (mu1 c tag j r f0 X) := by
  have e1 := sumTo_upd (ds X) x'.d cnt hi
  have e2 := sumTo_upd (ds X) x'.d WD.stage hi
  have e3 := sumTo_upd (ds X) x'.d WD.fuel hi
  have e4 := sumTo_upd X x' (fun x => x.ph.wt) hi
  unfold mu1 Mlt
  rw [phi_retag _ _ ht, ds_upd]
  simp only [Vc, Ssum, Fsum, Wsum] at *
  have d0 : ds X i = (X i).d := rfl
  rw [d0] at e1 e2 e3
  rcases hn with ⟨h1, h2⟩ | ⟨h1, h2⟩
  · refine Prod.Lex.left _ _ ?_
    have := phi_mono c.h (v' := sumTo j fun a => cnt (upd (ds X) i x'.d a)) (v := sumTo j fun a => cnt (ds X a)) (by omega) tag
    omega
  · have ec : cnt x'.d = cnt (X i).d := by simp only [cnt, h1]
    have ev : (sumTo j fun a => cnt (upd (ds X) i x'.d a)) = sumTo j fun a => cnt (ds X a) := by omega
    have es : (sumTo j fun a => (upd (ds X) i x'.d a).stage) = sumTo j fun a => (ds X a).stage := by omega
    rw [ev, es]
    refine Prod.Lex.right _ ?_
    rcases h2 with h2 | ⟨h2, h3⟩
    · exact Prod.Lex.left _ _ (by omega)
    · have ew : 2 * (c.n - r') + (sumTo j fun a => (upd X i x' a).ph.wt) = 2 * (c.n - r) + sumTo j fun a => (X a).ph.wt := by omega
      rw [ew]
      refine Prod.Lex.right _ ?_
      rcases h3 with h3 | ⟨h3, h4⟩
      · refine Prod.Lex.left _ _ ⟨i, by have := O.h8; omega, by show Tr.lt (upd X i x' i).rk (X i).rk; rw [upd_same]; exact h3, fun k hk => by show (upd X i x' k).rk = (X k).rk; rw [upd_ne X _ hk]⟩
      · have er : (fun a => (upd X i x' a).rk) = fun a => (X a).rk := by
          funext k
          by_cases e : k = i
          · subst e; rw [upd_same, h3]
          · rw [upd_ne X _ e]
        rw [er]
        refine Prod.Lex.right _ ?_
        omega
section
variable {P : Program} {c : Cfg} {Anch : (Nat → Prop) → Goroutine → World → Prop} {AnchW : Goroutine → World → Prop} {Post : Value → World → Prop}
  {gs : Array Goroutine} {w w' : World} {sl : Option (Nat × Nat)} {j r : Nat} {X : Nat → WX} {tag : CTag} {f0 d0 : Nat} {a : Goroutine} {t : Trace} {st sm : Int}
/-- Whatever step of hand number i. -/
theorem hand_step (O : c.Ok) (hA : ∀ own g w, Anch own g w → AtRecv P c Anch own g w) (hAr : ∀ g w, AnchW g w → g.status = .running)
    (ha : gs[0]? = some a) (hcs : CS P c Anch AnchW Post tag j f0 d0 a w) (C : Co P c Anch j gs w t X r d0 tag st sm)
    {i : Nat} (hi : i < j) {g g' : Goroutine} {gs' : Array Goroutine} {u : Trace} {x' : WX} {r' : Nat} {st' sm' : Int} {wk : Goroutine → Goroutine} (hgt : gs[i + 1]? = some g)
    (hrun : runT P (crowd gs w sl) (i + 1) = (.next (crowd gs' w' sl), u)) (hgs : gs' = (gs.map wk).setIfInBounds (i + 1) g') (hwk : wk = id ∨ wk = woken P g g' w')
    (hs' : Sit P c Anch x' g' w') (e : Eff c x'.own w w') (H' : WC c j w' (upd X i x') r') (hrm : RM c.ty c.Wg w w') (hr : r ≤ r')
    (hu : ∀ op ∈ u, op.g = i + 1)
    (hok : ∀ op ∈ u, ∀ x, op.act.touch? = some x → (ShN c.Wg x.loc ∧ x.kind ≠ .plain ∧ x.kind ≠ .said) ∨ (isRet tag = false ∧ x.kind = .plain ∧ (LocW c x' x.loc ∨ ((∃ a : Addr, x.loc = .cell a ∧ c.Rd a.block) ∧ x.write = false))))
    (hm : ∀ op ∈ u, op.act ≠ .mark (.release (stA c.Wg))) (old : ∀ b, (X i).own b → x'.own b) (gold : ∀ q, (X i).got q → x'.got q)
    (new : ∀ b, x'.own b → (X i).own b ∨ w.heap.size ≤ b) (gnew : ∀ q, x'.got q → (X i).got q ∨ r ≤ q)
    (hde : Deaf (t ++ u) (i + 1) = x'.d.deaf) (hrel : x'.d.stage ≤ 6 → ∃ q, RelBy (stA c.Wg) (t ++ u) (i + 1) q) (hwg : WgAt c.ty c.Wg w' st' sm')
    (hmode : ∀ tag', (tag' = tag ∨ (tag = .blk ∧ tag' = .w3)) → (wk = woken P g g' w' → mayWake P g = true → g'.status = .running → tag' ≠ .blk) → Go.ConcN.Mode j (upd (ds X) i x'.d) tag' st' sm')
    (hacq : tag = .ret → AcqAll c.Wg j (t ++ u)) (hdn : x'.ph = .over ∨ x'.ph = .lib → r' = c.n) (hn : Nearer c (X i) x' r r') :
    ∃ m₁ ops μ', runT P (crowd gs w sl) (i + 1) = (.next m₁, ops) ∧ Mlt μ' (mu1 c tag j r f0 X) ∧ Inv1 P c Anch AnchW Post μ' m₁ (t ++ ops) := by
  have hw : ∃ tag' f', CS P c Anch AnchW Post tag' j f' d0 (wk a) w' ∧ f' ≤ f0 + 1 ∧ (tag' = tag ∨ (tag = .blk ∧ tag' = .w3)) ∧ (wk = woken P g g' w' → mayWake P g = true → g'.status = .running → tag' ≠ .blk) := by
    rcases hwk with rfl | rfl
    · by_cases hid : (id : Goroutine → Goroutine) = woken P g g' w'
      · obtain ⟨tag', f', h1, h2, h3, h4⟩ := hcs.wokenBy hAr hrm g g'
        rw [← hid] at h1
        exact ⟨tag', f', h1, h2, h3, fun _ => h4⟩
      · exact ⟨tag, f0, hcs.rely hrm, by omega, .inl rfl, fun h => absurd h hid⟩
    · obtain ⟨tag', f', h1, h2, h3, h4⟩ := hcs.wokenBy hAr hrm g g'
      exact ⟨tag', f', h1, h2, h3, fun _ => h4⟩
  obtain ⟨tag', f', hcs', hf, ht, hb⟩ := hw
  have rly := C.wc.rly O e new
  refine ⟨_, u, mu1 c tag' j r' f' (upd X i x'), hrun, mu1_less O hi C.jh ht hf hn, gs', w', sl, j, upd X i x', r', tag', f', d0, wk a, st', sm', rfl, ?_, hcs', ⟨C.jh, by rw [hgs]; simp [C.size], fun i' hi' => ?_, H', ?_, hwg, by rw [ds_upd]; exact hmode tag' ht hb, ?_, ?_, ?_⟩, rfl⟩
  · rw [hgs, get_map_set _ _ _ _ (by omega), ha]; rfl
  · by_cases e' : i' = i
    · subst e'
      exact ⟨g', by rw [hgs]; exact get_map_set_same _ _ _ (by rw [C.size]; omega), by rw [upd_same]; exact hs'⟩
    · obtain ⟨x, hx, hsx⟩ := C.wk i' hi'
      refine ⟨x, ?_, ?_⟩
      · rw [hgs, get_map_set _ _ _ _ (by omega), hx, Option.map_some]
        rcases hwk with rfl | rfl
        · rfl
        · unfold Go.Conc.woken
          split
          · rw [again_running _ (hsx.status hA C.wc.base)]
          · rfl
      · rw [upd_ne X _ e']
        exact hsx.rely (rly i' e') hrm
  · rw [isRet_w3 ht]
    exact C.tc.worker O H' hi hu hok hm old gold new gnew e.size hr hde hrel
  · intro e'
    rcases ht with rfl | ⟨_, rfl⟩
    · exact hacq e'
    · cases e'
  · intro k hk l
    rw [upd_ne X _ (by omega)]
    exact C.out k hk l
  · intro k hk hp
    by_cases e' : k = i
    · subst e'; rw [upd_same] at hp; exact hdn hp
    · rw [upd_ne X _ e'] at hp
      have := C.done k hk hp
      have := H'.rle
      omega
end
end Go.Proofs.Ytebgcemglicjiaa

/- A hand's step on its way, at the receive, at the store. No condition of ours. -/
namespace Go.Proofs.Ytebgcemglicjiaa
open Go.Conc Go.ConcN
open Go.ConcR (KK WgAt stA smA rd wr mk DC0 Bk g_of_ofEvents bk_of_mute ofEvent_loc_mark)
section
variable {P : Program} {c : Cfg} {Anch : (Nat → Prop) → Goroutine → World → Prop} {AnchW : Goroutine → World → Prop} {Post : Value → World → Prop}
  {gs : Array Goroutine} {w : World} {sl : Option (Nat × Nat)} {j r : Nat} {X : Nat → WX} {tag : CTag} {f0 d0 : Nat} {a : Goroutine} {t : Trace} {st sm : Int}
theorem ret_false {tag : CTag} (h : tag ≠ .ret) : isRet tag = false := by cases tag <;> first | rfl | exact absurd rfl h
theorem ds_at {X : Nat → WX} {i : Nat} {x : WX} (h : X i = x) : ds X i = x.d := by unfold ds; rw [h]
theorem hand_way (O : c.Ok) (hA : ∀ own g w, Anch own g w → AtRecv P c Anch own g w) (hAr : ∀ g w, AnchW g w → g.status = .running)
    (ha : gs[0]? = some a) (hcs : CS P c Anch AnchW Post tag j f0 d0 a w) (C : Co P c Anch j gs w t X r d0 tag st sm)
    {i : Nat} (hi : i < j) {g : Goroutine} (hgt : gs[i + 1]? = some g) {own got : Nat → Prop} {ph : Ph} {f : World → Tr} {Stop : (Nat → Prop) → Goroutine → World → Prop}
    (hx : X i = ⟨⟨7, 0, 0⟩, own, got, ph, .node f⟩) (hk : WayK P false c.K c.Rd Stop (.node f) own g w)
    (mkS : ∀ own' g' w', WayK P false c.K c.Rd Stop (f w) own' g' w' → Sit P c Anch ⟨⟨7, 0, 0⟩, own', got, ph, f w⟩ g' w') :
    ∃ m₁ ops μ', runT P (crowd gs w sl) (i + 1) = (.next m₁, ops) ∧ Mlt μ' (mu1 c tag j r f0 X) ∧ Inv1 P c Anch AnchW Post μ' m₁ (t ++ ops) := by
  obtain ⟨own', g', w', ⟨es, hgo, _, A⟩, k⟩ := hk w (Rly.refl _ _) C.wc.base
  have hst : (ds X i).stage = 7 := by rw [ds_at hx]
  have hnr : tag ≠ .ret := C.mode.not_ret hi (by rw [hst]; decide)
  have oX : ∀ b, (X i).own b ↔ own b := fun b => by rw [hx]
  have hB := C.wc.hB
  have nw : ∀ b, b < c.B → ¬ own' b := fun b hb h => by
    rcases A.new b h with h | h
    · have := C.wc.own i b ((oX b).2 h); omega
    · omega
  have same : ∀ b, b < c.B → w'.heap[b]? = w.heap[b]? := fun b hb => A.others b (by omega) (nw b hb)
  have e : Eff c own' w w' := ⟨A.size, A.os, A.output, fun b h1 h2 _ _ _ => A.others b h1 h2⟩
  refine hand_step (x' := ⟨⟨7, 0, 0⟩, own', got, ph, f w⟩) (r' := r) O hA hAr ha hcs C hi hgt (runT_crowd_go hgt hgo) rfl (.inr rfl) (mkS own' g' w' k) e (C.wc.upd O e (fun b h => ?_) (fun q h => .inl (by rw [hx]; exact h)) (Nat.le_refl _) C.wc.rle ?_ ?_)
    (rm_of (same _ O.wg) A.size) (Nat.le_refl _) g_of_ofEvents (fun op hop x hx' => ?_) (fun op hop h => ?_) (fun b h => A.old b ((oX b).1 h)) (fun q h => by rw [hx] at h; exact h) (fun b h => ?_) (fun q h => .inl (by rw [hx]; exact h)) ?_ (fun h => absurd (show (7 : Nat) ≤ 6 from h) (by decide))
    (C.wg.of_block (same _ O.wg)) (fun tag' ht _ => ?_) (fun e' => absurd e' hnr) (fun h => C.done i hi (by rw [hx]; exact h)) (.inr ⟨by rw [hx], .inr ⟨by rw [hx], .inl (by rw [hx]; exact ⟨w, rfl⟩)⟩⟩)
  · rcases A.new b h with h | h
    · exact .inl ((oX b).2 h)
    · exact .inr h
  · rw [same _ O.ch]; exact C.wc.ch
  · rw [same _ O.ob]
    obtain ⟨cs, h1, h2, h3⟩ := C.wc.ob
    refine ⟨cs, h1, h2, fun b hb hp => h3 b hb fun k hk he => hp k hk ?_⟩
    by_cases e' : k = i
    · subst e'; rw [upd_same]; rw [hx] at he; exact he
    · rw [upd_ne X _ e']; exact he
  · obtain ⟨_, ev, hev, hact⟩ := mem_ops hop
    rw [hact] at hx'
    obtain ⟨h1, h2⟩ := (A.evs ev hev).touch x hx'
    refine .inr ⟨ret_false hnr, h1, ?_⟩
    rcases h2 with ⟨ad, h2, h3 | h3⟩ | ⟨b, h2, h3⟩
    · exact .inl (.inl ⟨ad, h2, .inl h3⟩)
    · exact .inr ⟨⟨ad, h2, h3.1⟩, h3.2⟩
    · exact .inl (.inr ⟨b, h2, h3⟩)
  · obtain ⟨_, ev, hev, hact⟩ := mem_ops hop
    rw [hact] at h
    exact (A.evs ev hev).marks.2.2 _ (Go.ConcR.loc_of_ofEvent h)
  · rcases A.new b h with h | h
    · exact .inl ((oX b).2 h)
    · exact .inr h.1
  · rw [Deaf_own, C.tc.deafW i hi, hx]
    exact deafBehind_idle (fun ev hev => ⟨(A.evs ev hev).marks.1, (A.evs ev hev).marks.2.1⟩) 0
  · have := C.mode.same (i := i) 0 0
    rw [hst] at this
    exact this.retag ht
theorem no_sender (hA : ∀ own g w, Anch own g w → AtRecv P c Anch own g w) (hAr : ∀ g w, AnchW g w → g.status = .running) (ha : gs[0]? = some a) (hcs : CS P c Anch AnchW Post tag j f0 d0 a w) (C : Co P c Anch j gs w t X r d0 tag st sm) (i q : Nat) :
    partners (gs.setIfInBounds i ph) q true = [] := by
  refine partners_nil fun k g₁ hk => ?_
  rcases getElem?_stand gs i k g₁ hk with ⟨_, rfl⟩ | ⟨_, hk'⟩
  · rfl
  · cases k with
    | zero =>
      rw [ha] at hk'; cases hk'
      rcases hcs.status hAr with ⟨h, _⟩ | ⟨h, h2, _⟩
      · exact offersAt_of_not_blocked (by rw [h]; simp) _ _
      · unfold offersAt; rw [h, h2]
    | succ k =>
      have hlt : k < j := by have := (Array.getElem?_eq_some_iff.1 hk').1; rw [C.size] at this; omega
      obtain ⟨g', hg', hs⟩ := C.wk k hlt
      rw [hk'] at hg'; cases hg'
      rcases hs.status hA C.wc.base with h | h <;> exact offersAt_of_not_blocked (by rw [h]; simp) _ _
theorem buf_size (c : Cfg) (r : Nat) : (c.buf r).size = c.n - r := by simp [Cfg.buf]
theorem buf_zero {c : Cfg} {r : Nat} (h : r < c.n) : (c.buf r).getD 0 undef = c.jobv r := by
  simp [Cfg.buf, Array.getD]
  omega
theorem buf_next {c : Cfg} {r : Nat} (_ : r < c.n) : (c.buf r).extract 1 (c.buf r).size = c.buf (r + 1) := by
  apply Array.ext
  · simp [Cfg.buf]; omega
  · intro k h1 h2
    simp [Cfg.buf] at h2
    simp [Cfg.buf]
    congr 1; omega
theorem hand_recv (O : c.Ok) (hA : ∀ own g w, Anch own g w → AtRecv P c Anch own g w) (hAr : ∀ g w, AnchW g w → g.status = .running)
    (ha : gs[0]? = some a) (hcs : CS P c Anch AnchW Post tag j f0 d0 a w) (C : Co P c Anch j gs w t X r d0 tag st sm)
    {i : Nat} (hi : i < j) {g : Goroutine} (hgt : gs[i + 1]? = some g) {own got : Nat → Prop} {rk : Tr}
    (hx : X i = ⟨⟨7, 0, 0⟩, own, got, .idle, rk⟩) (hk : AtRecv P c Anch own g w) :
    ∃ m₁ ops μ', runT P (crowd gs w sl) (i + 1) = (.next m₁, ops) ∧ Mlt μ' (mu1 c tag j r f0 X) ∧ Inv1 P c Anch AnchW Post μ' m₁ (t ++ ops) := by
  obtain ⟨_, z, g₂, shape, hgo, hjob, hover⟩ := hk
  have hst : (ds X i).stage = 7 := by rw [ds_at hx]
  have hnr : tag ≠ .ret := C.mode.not_ret hi (by rw [hst]; decide)
  have oX : ∀ b, (X i).own b ↔ own b := fun b => by rw [hx]
  have hB := C.wc.hB
  have hmo : ∀ tag', (tag' = tag ∨ (tag = .blk ∧ tag' = .w3)) → Go.ConcN.Mode j (upd (ds X) i ⟨7, 0, 0⟩) tag' st sm := fun tag' ht => by
    have := C.mode.same (i := i) 0 0
    rw [hst] at this
    exact this.retag ht
  have hns := no_sender hA hAr ha hcs C (i + 1) c.Ch
  obtain ⟨s, rr, tm, hch⟩ := C.wc.ch
  have mp : gs = gs.map id := by simp
  have hdeaf : ∀ u : Trace, (∀ op ∈ u, op.act ≠ .mark .disable ∧ op.act ≠ .mark .enable) → Deaf (t ++ u) (i + 1) = 0 := fun u hu => by rw [Deaf_still t _ u hu, C.tc.deafW i hi, hx]
  rcases Nat.lt_or_ge r c.n with hlt | hge
  · obtain ⟨tr, htr⟩ := hjob r hlt
    have hrun := crowd_recv_buf (P := P) (sl := sl) hgt (by simpa using hgo) hch (by rw [buf_size]; omega) hns
    rw [buf_zero hlt, buf_next hlt] at hrun
    have hother : ∀ b, b ≠ c.Ch → (w.setChan c.Ch c.cap (c.buf (r + 1)) true s (rr + 1) tm).heap[b]? = w.heap[b]? := fun b hb => by
      show (w.heap.setIfInBounds c.Ch _)[b]? = _
      rw [Array.getElem?_setIfInBounds_ne (Ne.symm hb)]
    have hhere : (w.setChan c.Ch c.cap (c.buf (r + 1)) true s (rr + 1) tm).heap[c.Ch]? = some (.chan c.cap (c.buf (r + 1)) true s (rr + 1) tm) := heap_put hch
    have hsz : (w.setChan c.Ch c.cap (c.buf (r + 1)) true s (rr + 1) tm).heap.size = w.heap.size := by simp [World.setChan]
    have e : Eff c own w (w.setChan c.Ch c.cap (c.buf (r + 1)) true s (rr + 1) tm) := ⟨by rw [hsz]; exact Nat.le_refl _, rfl, rfl, fun b _ _ _ _ hb => hother b hb⟩
    have hmem : ∀ op ∈ MemOp.ofEvents (i + 1) g.frame.fn g.frame.place #[] ++ #[({ g := i + 1, fn := g₂.frame.fn, pos := g₂.frame.place, act := .recv c.Ch rr c.cap } : MemOp), { g := i + 1, fn := g₂.frame.fn, pos := g₂.frame.place, act := .recvDone c.Ch rr }],
        op.g = i + 1 ∧ (op.act = .recv c.Ch rr c.cap ∨ op.act = .recvDone c.Ch rr) := fun op hop => by
      rw [ofEvents_eq] at hop
      simp at hop
      rcases hop with rfl | rfl
      · exact ⟨rfl, .inl rfl⟩
      · exact ⟨rfl, .inr rfl⟩
    refine hand_step (x' := ⟨⟨7, 0, 0⟩, own, fun q => got q ∨ q = r, .busy r, tr⟩) (r' := r + 1) (wk := id) O hA hAr ha hcs C hi hgt hrun (by rw [← mp]) (.inl rfl) (.busy hlt (.inr rfl) (htr.rely ⟨fun b hb => hother b (by have := C.wc.own i b ((oX b).2 hb); have := O.ch; omega), by rw [hsz]; exact Nat.le_refl _⟩)) e
      (C.wc.upd O e (fun b h => .inl ((oX b).2 h)) (fun q h => h.elim (fun h => .inl (by rw [hx]; exact h)) fun h => .inr ⟨h, rfl⟩) (Nat.le_succ _) hlt ⟨_, _, _, hhere⟩ ?_)
      (rm_of (hother _ O.wc) (by rw [hsz]; exact Nat.le_refl _)) (Nat.le_succ _) (fun op hop => (hmem op hop).1) (fun op hop x hx' => ?_) (fun op hop h => ?_) (fun b h => (oX b).1 h) (fun q h => .inl (by rw [hx] at h; exact h)) (fun b h => .inl ((oX b).2 h))
      (fun q h => h.elim (fun h => .inl (by rw [hx]; exact h)) fun h => .inr (by omega)) (hdeaf _ fun op hop => ?_) (fun h => absurd (show (7 : Nat) ≤ 6 from h) (by decide)) (C.wg.of_block (hother _ O.wc)) (fun tag' ht _ => hmo tag' ht) (fun e' => absurd e' hnr) (fun h => by simp at h) (.inr ⟨by rw [hx], .inl ?_⟩)
    · rw [hother _ O.oc]
      obtain ⟨cs, h1, h2, h3⟩ := C.wc.ob
      refine ⟨cs, h1, h2, fun b hb hp => ?_⟩
      have hbr : b ≠ r := fun e' => hp i hi (by rw [upd_same, e'])
      refine h3 b (by omega) fun k hk he => ?_
      by_cases e' : k = i
      · subst e'; rw [hx] at he; cases he
      · exact hp k hk (by rw [upd_ne X _ e']; exact he)
    · rcases (hmem op hop).2 with h | h <;> rw [h] at hx' <;> cases hx'
    · rcases (hmem op hop).2 with h' | h' <;> rw [h'] at h <;> cases h
    · rcases (hmem op hop).2 with h | h <;> rw [h] <;> exact ⟨by simp, by simp⟩
    · rw [hx]; show 2 * (c.n - (r + 1)) + 3 < 2 * (c.n - r) + 2; omega
  · have hre : c.buf r = #[] := Array.eq_empty_of_size_eq_zero (by rw [buf_size]; omega)
    rw [hre] at hch
    obtain ⟨tr, htr⟩ := hover
    have hrun := crowd_recv_closed (P := P) (sl := sl) hgt (by simpa using hgo) hch hns
    have e : Eff c own w w := .refl _ _ _
    have hmem : ∀ op ∈ MemOp.ofEvents (i + 1) g.frame.fn g.frame.place #[] ++ #[({ g := i + 1, fn := g₂.frame.fn, pos := g₂.frame.place, act := .recvClosed c.Ch } : MemOp)], op.g = i + 1 ∧ op.act = .recvClosed c.Ch := fun op hop => by
      rw [ofEvents_eq] at hop
      simp at hop
      subst hop
      exact ⟨rfl, rfl⟩
    refine hand_step (x' := ⟨⟨7, 0, 0⟩, own, got, .over, tr⟩) (r' := r) (wk := id) O hA hAr ha hcs C hi hgt hrun (by rw [← mp]) (.inl rfl) (.over htr) e
      (C.wc.upd O e (fun b h => .inl ((oX b).2 h)) (fun q h => .inl (by rw [hx]; exact h)) (Nat.le_refl _) C.wc.rle C.wc.ch ?_)
      (RM.refl _ _ w) (Nat.le_refl _) (fun op hop => (hmem op hop).1) (fun op hop x hx' => ?_) (fun op hop h => ?_) (fun b h => (oX b).1 h) (fun q h => by rw [hx] at h; exact h) (fun b h => .inl ((oX b).2 h))
      (fun q h => .inl (by rw [hx]; exact h)) (hdeaf _ fun op hop => ?_) (fun h => absurd (show (7 : Nat) ≤ 6 from h) (by decide)) C.wg (fun tag' ht _ => hmo tag' ht) (fun e' => absurd e' hnr) (fun _ => by have := C.wc.rle; omega) (.inr ⟨by rw [hx], .inl ?_⟩)
    · obtain ⟨cs, h1, h2, h3⟩ := C.wc.ob
      refine ⟨cs, h1, h2, fun b hb hp => h3 b hb fun k hk he => ?_⟩
      by_cases e' : k = i
      · subst e'; rw [hx] at he; cases he
      · exact hp k hk (by rw [upd_ne X _ e']; exact he)
    · rw [(hmem op hop).2] at hx'; cases hx'
    · rw [(hmem op hop).2] at h; cases h
    · rw [(hmem op hop).2]; exact ⟨by simp, by simp⟩
    · rw [hx]; show 2 * (c.n - r) + 1 < 2 * (c.n - r) + 2; omega
theorem hand_store (O : c.Ok) (hA : ∀ own g w, Anch own g w → AtRecv P c Anch own g w) (hAr : ∀ g w, AnchW g w → g.status = .running)
    (ha : gs[0]? = some a) (hcs : CS P c Anch AnchW Post tag j f0 d0 a w) (C : Co P c Anch j gs w t X r d0 tag st sm)
    {i : Nat} (hi : i < j) {g : Goroutine} (hgt : gs[i + 1]? = some g) {own got : Nat → Prop} {rk : Tr} {b : Nat} (hbn : b < c.n) (hgb : got b)
    (hx : X i = ⟨⟨7, 0, 0⟩, own, got, .busy b, rk⟩) (hk : AtStore P c Anch b own g w) :
    ∃ m₁ ops μ', runT P (crowd gs w sl) (i + 1) = (.next m₁, ops) ∧ Mlt μ' (mu1 c tag j r f0 X) ∧ Inv1 P c Anch AnchW Post μ' m₁ (t ++ ops) := by
  obtain ⟨cs, ho1, ho2, ho3⟩ := C.wc.ob
  obtain ⟨_, hk⟩ := hk
  obtain ⟨g', es, hgo, hev, tr, htr⟩ := hk cs ho1 ho2
  have hst : (ds X i).stage = 7 := by rw [ds_at hx]
  have hnr : tag ≠ .ret := C.mode.not_ret hi (by rw [hst]; decide)
  have oX : ∀ b, (X i).own b ↔ own b := fun b => by rw [hx]
  generalize hw' : ({ w with heap := w.heap.setIfInBounds c.Ob (.cells (put2 cs b (c.ansA b) (c.ansB b)) c.oty) } : World) = w' at hgo
  have hother : ∀ q, q ≠ c.Ob → w'.heap[q]? = w.heap[q]? := fun q hq => by
    rw [← hw']
    show (w.heap.setIfInBounds c.Ob _)[q]? = _
    rw [Array.getElem?_setIfInBounds_ne (Ne.symm hq)]
  have hhere : w'.heap[c.Ob]? = some (.cells (put2 cs b (c.ansA b) (c.ansB b)) c.oty) := by rw [← hw']; exact heap_put ho1
  have hsz : w'.heap.size = w.heap.size := by rw [← hw']; simp
  have hle : w.heap.size ≤ w'.heap.size := by rw [hsz]; exact Nat.le_refl _
  have e : Eff c own w w' := ⟨hle, by rw [← hw'], by rw [← hw'], fun q _ _ _ hq _ => hother q hq⟩
  refine hand_step (x' := ⟨⟨7, 0, 0⟩, own, got, .idle, tr⟩) (r' := r) O hA hAr ha hcs C hi hgt (runT_crowd_go hgt hgo) rfl (.inr rfl) (.idle (htr.rely ⟨fun q hq => hother q (by have := C.wc.own i q ((oX q).2 hq); have := O.ob; omega), hle⟩)) e
    (C.wc.upd O e (fun q h => .inl ((oX q).2 h)) (fun q h => .inl (by rw [hx]; exact h)) (Nat.le_refl _) C.wc.rle (by rw [hother _ (Ne.symm O.oc)]; exact C.wc.ch) ⟨_, hhere, by rw [put2_size]; exact ho2, fun q hq hp => ?_⟩)
    (rm_of (hother _ O.wo) hle) (Nat.le_refl _) g_of_ofEvents (fun op hop x hx' => ?_) (fun op hop h => ?_) (fun q h => (oX q).1 h) (fun q h => by rw [hx] at h; exact h) (fun q h => .inl ((oX q).2 h)) (fun q h => .inl (by rw [hx]; exact h)) ?_ (fun h => absurd (show (7 : Nat) ≤ 6 from h) (by decide))
    (C.wg.of_block (hother _ O.wo)) (fun tag' ht _ => ?_) (fun e' => absurd e' hnr) (fun h => by simp at h) (.inr ⟨by rw [hx], .inl ?_⟩)
  · by_cases e' : q = b
    · subst e'; exact put2_here _ _ ho2 hbn
    · rw [(put2_other _ _ e').1, (put2_other _ _ e').2]
      refine ho3 q hq fun k hk he => ?_
      by_cases ek : k = i
      · subst ek; rw [hx] at he; cases he; exact e' rfl
      · exact hp k hk (by rw [upd_ne X _ ek]; exact he)
  · obtain ⟨_, ev, hev', hact⟩ := mem_ops hop
    rw [hact] at hx'
    obtain ⟨off, rfl, hoff⟩ := hev ev hev'
    simp only [MemAct.ofEvent, MemAct.touch?, Option.some.injEq] at hx'
    subst hx'
    exact .inr ⟨ret_false hnr, rfl, .inl (.inl ⟨_, rfl, .inr ⟨rfl, b, hgb, hoff⟩⟩)⟩
  · obtain ⟨_, ev, hev', hact⟩ := mem_ops hop
    rw [hact] at h
    obtain ⟨off, rfl, hoff⟩ := hev ev hev'
    cases h
  · rw [Deaf_own, C.tc.deafW i hi, hx]
    exact deafBehind_idle (fun ev hev' => by obtain ⟨off, rfl, hoff⟩ := hev ev hev'; exact ⟨by simp, by simp⟩) 0
  · have := C.mode.same (i := i) 0 0
    rw [hst] at this
    exact this.retag ht
  · rw [hx]; show 2 * (c.n - r) + 2 < 2 * (c.n - r) + 3; omega
end
end Go.Proofs.Ytebgcemglicjiaa

/- A hand's step in Done, and all its steps. No condition of ours. -/
namespace Go.Proofs.Ytebgcemglicjiaa
open Go.Conc Go.ConcN
open Go.ConcR (KK WgAt stA smA rd wr mk DC0 Bk g_of_ofEvents bk_of_mute ofEvent_loc_mark)
section
variable {P : Program} {c : Cfg} {Anch : (Nat → Prop) → Goroutine → World → Prop} {AnchW : Goroutine → World → Prop} {Post : Value → World → Prop}
  {gs : Array Goroutine} {w : World} {sl : Option (Nat × Nat)} {j r : Nat} {X : Nat → WX} {tag : CTag} {f0 d0 : Nat} {a : Goroutine} {t : Trace} {st sm : Int}
set_option maxHeartbeats 1600000 in
theorem hand_lib (O : c.Ok) (hA : ∀ own g w, Anch own g w → AtRecv P c Anch own g w) (hAr : ∀ g w, AnchW g w → g.status = .running)
    (ha : gs[0]? = some a) (hcs : CS P c Anch AnchW Post tag j f0 d0 a w) (C : Co P c Anch j gs w t X r d0 tag st sm)
    {i : Nat} (hi : i < j) {g : Goroutine} (hgt : gs[i + 1]? = some g) (hrun : g.status = .running) {s m dd : Nat} (hst : (ds X i).stage = s) (hde : (ds X i).deaf = dd) (hph : (X i).ph = .over ∨ (X i).ph = .lib)
    (near : ∀ m', m' + 1 = m → Nearer c (X i) ⟨⟨s, m', dd⟩, (X i).own, (X i).got, .lib, (X i).rk⟩ r r ∧ ∀ d', Nearer c (X i) ⟨⟨s, m', d'⟩, (X i).own, (X i).got, .lib, (X i).rk⟩ r r) (hs : LSit P c.ty c.Wg s m dd g w) :
    ∃ m₁ ops μ', runT P (crowd gs w sl) (i + 1) = (.next m₁, ops) ∧ Mlt μ' (mu1 c tag j r f0 X) ∧ Inv1 P c Anch AnchW Post μ' m₁ (t ++ ops) := by
  have hVj := Vc_le j (ds X)
  have hdk : Deaf t (i + 1) = dd := by rw [C.tc.deafW i hi]; exact hde
  have hdd : (X i).d.stage = s := hst
  have hb : j + pend tag ≤ c.h := by cases hcs <;> simp only [pend] <;> (try simp) <;> omega
  have hh : c.h < 2147483647 := by have := O.h8; omega
  have bookG : ∀ {g' : Goroutine} {w' : World} {es : Array Event} {s' m' dd' : Nat} {st' sm' : Int}, stepG P false g w = .go g' w' es → Aside c.Wg w w' → WgAt c.ty c.Wg w' st' sm' → (∀ e ∈ es, Bk c.Wg e ∨ e = mk (.releaseMerge (stA c.Wg))) →
      LSit P c.ty c.Wg s' m' dd' g' w' → deafBehind dd es = dd' → (s' ≤ 6 → ∃ q, RelBy (stA c.Wg) (t ++ MemOp.ofEvents (i + 1) g.frame.fn g.frame.place es) (i + 1) q) →
      (∀ tag', (tag' = tag ∨ (tag = .blk ∧ tag' = .w3)) → (mayWake P g = true → g'.status = .running → tag' ≠ .blk) → Go.ConcN.Mode j (upd (ds X) i ⟨s', m', dd'⟩) tag' st' sm') → (tag = .ret → AcqAll c.Wg j (t ++ MemOp.ofEvents (i + 1) g.frame.fn g.frame.place es)) →
      Nearer c (X i) ⟨⟨s', m', dd'⟩, (X i).own, (X i).got, .lib, (X i).rk⟩ r r →
      ∃ m₁ ops μ', runT P (crowd gs w sl) (i + 1) = (.next m₁, ops) ∧ Mlt μ' (mu1 c tag j r f0 X) ∧ Inv1 P c Anch AnchW Post μ' m₁ (t ++ ops) := by
    intro g' w' es s' m' dd' st' sm' hgo hAs hwg' hbk hs' hdd' hrel hmode' hacq' hlt
    have e : Eff c (X i).own w w' := .wg _ hAs
    refine hand_step (x' := ⟨⟨s', m', dd'⟩, (X i).own, (X i).got, .lib, (X i).rk⟩) (r' := r) O hA hAr ha hcs C hi hgt (runT_crowd_go hgt hgo) rfl (.inr rfl) (.lib hs') e
      (C.wc.upd O e (fun _ h => .inl h) (fun _ h => .inl h) (Nat.le_refl _) C.wc.rle (by rw [hAs.block _ (Ne.symm O.wc)]; exact C.wc.ch) ?_) (rm_wg hAs ⟨_, _, hwg'⟩) (Nat.le_refl _) g_of_ofEvents (fun op hop x hx' => ?_) (fun op hop h => ?_)
      (fun _ h => h) (fun _ h => h) (fun _ h => .inl h) (fun _ h => .inl h) (by rw [Deaf_own, hdk]; exact hdd') hrel hwg' (fun tag' ht hw => hmode' tag' ht (hw rfl)) hacq' (fun _ => C.done i hi hph) hlt
    · rw [hAs.block _ (Ne.symm O.wo)]
      obtain ⟨cs, h1, h2, h3⟩ := C.wc.ob
      refine ⟨cs, h1, h2, fun b hb hp => h3 b hb fun k hk he => ?_⟩
      by_cases e' : k = i
      · subst e'
        rcases hph with h | h <;> rw [h] at he <;> cases he
      · exact hp k hk (by rw [upd_ne X _ e']; exact he)
    · obtain ⟨_, ev, hev, hact⟩ := mem_ops hop
      rw [hact] at hx'
      rcases hbk ev hev with (h1 | h1 | ⟨ad, wr, rfl, had⟩) | rfl
      · rw [ofEvent_loc_mark h1] at hx'; cases hx'
      · rw [ofEvent_loc_mark h1] at hx'; cases hx'
      · rw [Go.ConcR.ofEvent_cell] at hx'
        simp only [MemAct.touch?, Option.some.injEq] at hx'
        subst hx'
        exact .inl ⟨⟨ad, rfl, had⟩, by simp, by simp⟩
      · cases hx'
    · obtain ⟨_, ev, hev, hact⟩ := mem_ops hop
      rw [hact] at h
      have hl := Go.ConcR.loc_of_ofEvent h
      rcases hbk ev hev with (h1 | h1 | ⟨ad, wr, rfl, had⟩) | rfl
      · rw [h1] at hl; cases hl
      · rw [h1] at hl; cases hl
      · cases hl
      · cases hl
  have lower : ∀ {s' m' d' : Nat}, s' < s → cnt ⟨s', m', d'⟩ ≤ cnt (ds X i) → Nearer c (X i) ⟨⟨s', m', d'⟩, (X i).own, (X i).got, .lib, (X i).rk⟩ r r := fun h1 h2 => .inl ⟨by rw [hdd]; exact h1, h2⟩
  have old6 : s ≤ 6 → ∃ q, RelBy (stA c.Wg) t (i + 1) q := fun h => C.tc.rel i hi (by rw [hdd]; exact h)
  have book : ∀ {g' : Goroutine} {w' : World} {es : Array Event} {s' m' dd' : Nat} {st' sm' : Int}, stepG P false g w = .go g' w' es → Aside c.Wg w w' → WgAt c.ty c.Wg w' st' sm' → (∀ e ∈ es, Bk c.Wg e) →
      (∀ jx e, es[jx]? = some e → (MemAct.ofEvent e).touch? = none ∨ 0 < deafBehind dd (es.extract 0 jx)) → LSit P c.ty c.Wg s' m' dd' g' w' → deafBehind dd es = dd' → s ≤ 6 →
      Go.ConcN.Mode j (upd (ds X) i ⟨s', m', dd'⟩) tag st' sm' → (tag = .ret → AcqAll c.Wg j (t ++ MemOp.ofEvents (i + 1) g.frame.fn g.frame.place es)) → Nearer c (X i) ⟨⟨s', m', dd'⟩, (X i).own, (X i).got, .lib, (X i).rk⟩ r r →
      ∃ m₁ ops μ', runT P (crowd gs w sl) (i + 1) = (.next m₁, ops) ∧ Mlt μ' (mu1 c tag j r f0 X) ∧ Inv1 P c Anch AnchW Post μ' m₁ (t ++ ops) :=
    fun hgo hAs hwg' hbk hd hs' hdd' h6 hmode' hacq' hlt => bookG hgo hAs hwg' (fun e he => .inl (hbk e he)) hs' hdd' (fun _ => let ⟨q, hq⟩ := old6 h6; ⟨q, hq.book hdk _ _ hbk hd⟩) (fun _ ht _ => hmode'.retag ht) hacq' hlt
  have nr : s ≠ 1 → tag ≠ .ret := fun h => C.mode.not_ret hi (by rw [hst]; exact h)
  have idle : ∀ {g' : Goroutine} {m' : Nat}, stepG P false g w = .go g' w #[] → LSit P c.ty c.Wg s m' dd g' w → m' + 1 = m → s ≠ 1 →
      ∃ m₁ ops μ', runT P (crowd gs w sl) (i + 1) = (.next m₁, ops) ∧ Mlt μ' (mu1 c tag j r f0 X) ∧ Inv1 P c Anch AnchW Post μ' m₁ (t ++ ops) := by
    intro g' m' hgo hs' hm h1
    refine bookG hgo (.refl c.Wg w) C.wg (by simp) hs' rfl (fun h6 => ?_) (fun _ ht _ => Mode.retag (by have := C.mode.same (i := i) m' dd; rwa [hst] at this) ht) (fun e => absurd e (nr h1)) (near m' hm).1
    obtain ⟨q, hq⟩ := old6 h6
    exact ⟨q, hq.book (Wg := c.Wg) hdk _ _ (by simp) (fun jx e he => by simp at he)⟩
  have hwg := C.wg
  have hmode := C.mode
  cases hs with
  | r0 h =>
    rcases Goes.cases h with hstop | ⟨m', rfl, hstep⟩
    · obtain ⟨_, g', hgo, m₂, hk⟩ := hstop w (RM.refl _ _ w)
      exact bookG hgo (.refl c.Wg w) hwg (by intro e he; simp at he; exact .inr he) (.k1 hk) (by simp [deafBehind, mk]) (fun _ => ⟨t.size, RelBy.new hdk _ _⟩) (fun _ ht _ => (hmode.counted hi (by omega) (.inl rfl) _ _).retag ht) (fun e => absurd e (nr (by omega))) (lower (by omega) (by simp [cnt, hst]))
    · obtain ⟨g', w', es, hgo, ⟨rfl, rfl⟩, hg'⟩ := hstep w (RM.refl _ _ w)
      exact idle hgo (.r0 hg') rfl (by omega)
  | k1 h =>
    rcases Goes.cases h with hstop | ⟨m', rfl, hstep⟩
    · obtain ⟨_, g', hgo, m₂, hk⟩ := hstop w (RM.refl _ _ w)
      exact book hgo (.refl c.Wg w) hwg (by intro e he; simp at he; subst he; exact .inl rfl) (by intro jx e he; exact .inl (by have := Array.mem_of_getElem? he; simp at this; subst this; rfl)) (.d1 hk) rfl (by omega)
        (hmode.counted hi (by omega) (.inr rfl) _ _) (fun e => absurd e (nr (by omega))) (lower (by omega) (by simp [cnt, hst]))
    · obtain ⟨g', w', es, hgo, ⟨rfl, rfl⟩, hg'⟩ := hstep w (RM.refl _ _ w)
      exact idle hgo (.k1 hg') rfl (by omega)
  | d1 h =>
    rcases Goes.cases h with hstop | ⟨m', rfl, hstep⟩
    · obtain ⟨_, hall⟩ := hstop w (RM.refl _ _ w)
      have hc1 : cnt (ds X i) = 1 := by simp [cnt, hst]
      have hV1 : 1 ≤ Vc j (ds X) := by have := le_sumTo (f := fun x => cnt (ds X x)) hi; simp only [Vc]; omega
      have bk2 : ∀ e ∈ #[rd (stA c.Wg), wr (stA c.Wg)], Bk c.Wg e := by intro e he; simp at he; rcases he with rfl | rfl <;> exact bk_cell _ _ rfl
      have df2 : ∀ jx e, (#[rd (stA c.Wg), wr (stA c.Wg)] : Array Event)[jx]? = some e → (MemAct.ofEvent e).touch? = none ∨ 0 < deafBehind 1 ((#[rd (stA c.Wg), wr (stA c.Wg)] : Array Event).extract 0 jx) := by
        intro jx e he
        match jx, he with
        | 0, _ => exact .inr (by simp [deafBehind])
        | 1, _ => exact .inr (by simp [deafBehind, rd])
        | jx + 2, he => simp at he
      have hq0 : ∀ q, cnt (⟨1, q, 1⟩ : WD) = 0 := fun _ => rfl
      have opq : ∀ q, OpenSt j (ds X) → OpenSt j (upd (ds X) i ⟨1, q, 1⟩) := fun q h a ha => by
        by_cases e : a = i
        · subst e; rw [upd_same]; simp
        · rw [upd_ne (ds X) _ e]; exact h a ha
      cases hmode with
      | opn h1 h2 h3 =>
        obtain ⟨v, hv⟩ : ∃ v, Vc j (ds X) + pend tag = v + 1 := ⟨Vc j (ds X) + pend tag - 1, by omega⟩
        rw [hv] at hwg
        have hw1 : WgAt c.ty c.Wg w (((v : Nat) + 1) * KK + ((0 : Nat) : Int)) 0 := by simpa using hwg
        obtain ⟨g', hgo, _, hq⟩ := hall v 0 (by omega) (by omega) hw1
        obtain ⟨q, hq⟩ := hq (by omega)
        have hv' : Vc j (upd (ds X) i ⟨1, q, 1⟩) + pend tag = v := by have := Vc_upd (ds X) (⟨1, q, 1⟩ : WD) hi; have := hq0 q; omega
        refine book hgo (aside_setCell w (stA c.Wg) _) (hwg.setSt _) bk2 df2 (.quit hq) rfl (by omega) ?_ (fun e => absurd e (nr (by omega))) (lower (by omega) (by simp [cnt]))
        have e : ((v : Nat) : Int) * KK + ((0 : Nat) : Int) = ((Vc j (upd (ds X) i ⟨1, q, 1⟩) + pend tag : Nat) : Int) * KK := by rw [hv']; simp
        rw [e]
        exact .opn h1 (opq q h2) (fun vs ev => by have := h3 vs ev; omega)
      | reg h1 h2 h3 =>
        obtain ⟨v, hv⟩ : ∃ v, Vc j (ds X) = v + 1 := ⟨Vc j (ds X) - 1, by omega⟩
        rw [hv] at hwg
        have hp : pend tag = 0 := by cases tag <;> first | rfl | exact h1.elim
        have hw1 : WgAt c.ty c.Wg w (((v : Nat) + 1) * KK + ((1 : Nat) : Int)) 0 := by simpa using hwg
        obtain ⟨g', hgo, hl, hq⟩ := hall v 1 (by omega) (by omega) hw1
        by_cases hv0 : v = 0
        · subst hv0
          obtain ⟨m₂, hk⟩ := hl ⟨rfl, rfl⟩
          refine book hgo (aside_setCell w (stA c.Wg) _) (hwg.setSt _) bk2 df2 (.d2 hk) rfl (by omega) ?_ (fun e => absurd e (nr (by omega))) (lower (by omega) (by simp [cnt]))
          have hoth : ∀ a, a < j → a ≠ i → (ds X a).stage = 1 := fun a ha e => by
            have c0 := others_uncounted hi hv hc1 a ha e
            have := h2 a ha
            simp only [cnt] at c0
            split at c0 <;> omega
          have := Mode.last (j := j) (D := upd (ds X) i ⟨4, m₂, 1⟩) (tag := tag) i h1 hi (by rw [upd_same]; simp) (fun a ha e => by rw [upd_ne (ds X) _ e]; exact hoth a ha e)
          rw [upd_same] at this
          simpa using this
        · obtain ⟨q, hq⟩ := hq (by omega)
          have hv' : Vc j (upd (ds X) i ⟨1, q, 1⟩) = v := by have := Vc_upd (ds X) (⟨1, q, 1⟩ : WD) hi; have := hq0 q; omega
          refine book hgo (aside_setCell w (stA c.Wg) _) (hwg.setSt _) bk2 df2 (.quit hq) rfl (by omega) ?_ (fun e => absurd e (nr (by omega))) (lower (by omega) (by simp [cnt]))
          have e : ((v : Nat) : Int) * KK + ((1 : Nat) : Int) = ((Vc j (upd (ds X) i ⟨1, q, 1⟩) : Nat) : Int) * KK + 1 := by rw [hv']; simp
          rw [e]
          exact .reg h1 (opq q h2) (by omega)
      | last L _ h2 h3 h4 =>
        by_cases e : i = L
        · subst e; omega
        · have := h4 i hi e; omega
      | sema h2 => have := h2 i hi; omega
      | fin _ h2 => have := h2 i hi; omega
    · obtain ⟨g', w', es, hgo, ⟨rfl, rfl⟩, hg'⟩ := hstep w (RM.refl _ _ w)
      exact idle hgo (.d1 hg') rfl (by omega)
  | d2 h =>
    rcases Goes.cases h with hstop | ⟨m', rfl, hstep⟩
    · obtain ⟨_, hx⟩ := hstop w (RM.refl _ _ w)
      obtain ⟨hW3, hoth, rfl, rfl⟩ := hmode.isLast hi (by omega)
      simp only [hst] at hwg
      obtain ⟨g', hgo, m₂, hk⟩ := hx (by simpa using hwg)
      refine book hgo (.refl c.Wg w) hwg (by intro e he; simp at he; subst he; exact bk_cell _ _ rfl) (by intro jx e he; match jx, he with | 0, _ => exact .inr (by simp [deafBehind]) | jx + 1, he => simp at he) (.d3 hk) rfl (by omega) ?_ (fun e => absurd e (nr (by omega))) (lower (by omega) (by simp [cnt]))
      have := Mode.last (j := j) (D := upd (ds X) i ⟨3, m₂, 1⟩) (tag := tag) i hW3 hi (by rw [upd_same]; simp) (fun a ha e => by rw [upd_ne (ds X) _ e]; exact hoth a ha e)
      rw [upd_same] at this
      simpa using this
    · obtain ⟨g', w', es, hgo, ⟨rfl, rfl⟩, hg'⟩ := hstep w (RM.refl _ _ w)
      exact idle hgo (.d2 hg') rfl (by omega)
  | d3 h =>
    rcases Goes.cases h with hstop | ⟨m', rfl, hstep⟩
    · obtain ⟨_, hx⟩ := hstop w (RM.refl _ _ w)
      obtain ⟨hW3, hoth, rfl, rfl⟩ := hmode.isLast hi (by omega)
      simp only [hst] at hwg
      obtain ⟨g', hgo, m₂, hk⟩ := hx (by simpa using hwg)
      refine book hgo (aside_setCell w (stA c.Wg) _) (hwg.setSt 0) (by intro e he; simp at he; subst he; exact bk_cell _ _ rfl) (by intro jx e he; match jx, he with | 0, _ => exact .inr (by simp [deafBehind]) | jx + 1, he => simp at he) (.d4 hk) rfl (by omega) ?_ (fun e => absurd e (nr (by omega))) (lower (by omega) (by simp [cnt]))
      have := Mode.last (j := j) (D := upd (ds X) i ⟨2, m₂, 1⟩) (tag := tag) i hW3 hi (by rw [upd_same]; simp) (fun a ha e => by rw [upd_ne (ds X) _ e]; exact hoth a ha e)
      rw [upd_same] at this
      simpa using this
    · obtain ⟨g', w', es, hgo, ⟨rfl, rfl⟩, hg'⟩ := hstep w (RM.refl _ _ w)
      exact idle hgo (.d3 hg') rfl (by omega)
  | d4 h =>
    rcases Goes.cases h with hstop | ⟨m', rfl, hstep⟩
    · obtain ⟨_, hmw, hx⟩ := hstop w (RM.refl _ _ w)
      obtain ⟨hW3, hoth, rfl, rfl⟩ := hmode.isLast hi (by omega)
      simp only [hst] at hwg
      obtain ⟨g', hgo, q, hq⟩ := hx (by simpa using hwg)
      have hrun' : g'.status = .running := by
        cases q with
        | zero => exact absurd hq.2 (by decide)
        | succ q => exact hq.elim (fun x => absurd x.2 (by decide)) (fun x => x.1)
      have hbk : ∀ e ∈ semEvents (smA c.Wg), Bk c.Wg e := by
        intro e he
        simp [semEvents] at he
        rcases he with rfl | rfl | rfl | rfl
        · exact .inl rfl
        · exact bk_cell _ _ rfl
        · exact bk_cell _ _ rfl
        · exact .inr (.inl rfl)
      refine bookG hgo (aside_setCell w (smA c.Wg) _) (hwg.setSm 1) (fun e he => .inl (hbk e he)) (.quit hq) (by simp [deafBehind, semEvents]) (fun _ => ?_) ?_ (fun e => absurd e (nr (by omega))) (lower (by omega) (by simp [cnt]))
      · obtain ⟨q', hq'⟩ := old6 (by omega)
        refine ⟨q', hq'.book hdk _ _ hbk fun jx e he => ?_⟩
        match jx, he with
        | 0, he => simp [semEvents] at he; subst he; exact .inl rfl
        | 1, _ => exact .inr (by simp [deafBehind, semEvents])
        | 2, _ => exact .inr (by simp [deafBehind, semEvents])
        | 3, he => simp [semEvents] at he; subst he; exact .inl rfl
        | jx + 4, he => simp [semEvents] at he
      · intro tag' ht hw
        have hnb := hw hmw hrun'
        have e3 : tag' = .w3 := by
          rcases ht with rfl | ⟨_, rfl⟩
          · cases tag' <;> first | rfl | exact hW3.elim | exact absurd rfl hnb
          · rfl
        subst e3
        simp only [if_true]
        exact .sema fun a ha => by
          by_cases e : a = i
          · subst e; rw [upd_same]
          · rw [upd_ne (ds X) _ e]; exact hoth a ha e
    · obtain ⟨g', w', es, hgo, ⟨rfl, rfl⟩, hg'⟩ := hstep w (RM.refl _ _ w)
      exact idle hgo (.d4 hg') rfl (by omega)
  | quit h =>
    cases m with
    | zero => rw [h.1] at hrun; cases hrun
    | succ q =>
      rcases h with ⟨hf, _⟩ | ⟨_, g', es, hmute, hstep, hq⟩
      · rw [hf] at hrun; cases hrun
      · have hbk : ∀ e ∈ es, Bk c.Wg e := fun e he => bk_of_mute (hmute e he)
        have hno : ∀ jx e, es[jx]? = some e → (MemAct.ofEvent e).touch? = none ∨ 0 < deafBehind dd (es.extract 0 jx) := fun jx e he => .inl (by
          rcases bk_of_mute (Wg := c.Wg) (hmute e (Array.mem_of_getElem? he)) with h1 | h1 | ⟨a, wr, rfl, _⟩
          · rw [ofEvent_loc_mark h1]; rfl
          · rw [ofEvent_loc_mark h1]; rfl
          · have := hmute _ (Array.mem_of_getElem? he); simp [Event.mute] at this)
        refine book (hstep w) (.refl c.Wg w) hwg hbk hno (.quit hq) rfl (by omega) (by have := hmode.same (i := i) q (deafBehind dd es); rwa [hst] at this) (fun e => (C.acq e).app fun i' r hi' hr => ?_) ((near q rfl).2 _)
        by_cases e' : i' = i
        · subst e'; exact hr.book hdk _ _ hbk hno
        · exact hr.appOther g_of_ofEvents (by omega)
/-- Every step of a hand's. -/
theorem hand_any (O : c.Ok) (hA : ∀ own g w, Anch own g w → AtRecv P c Anch own g w) (hAr : ∀ g w, AnchW g w → g.status = .running)
    (ha : gs[0]? = some a) (hcs : CS P c Anch AnchW Post tag j f0 d0 a w) (C : Co P c Anch j gs w t X r d0 tag st sm)
    {i : Nat} (hi : i < j) {g : Goroutine} (hgt : gs[i + 1]? = some g) (hrun : g.status = .running) :
    ∃ m₁ ops μ', runT P (crowd gs w sl) (i + 1) = (.next m₁, ops) ∧ Mlt μ' (mu1 c tag j r f0 X) ∧ Inv1 P c Anch AnchW Post μ' m₁ (t ++ ops) := by
  obtain ⟨g₁, hg₁, hs⟩ := C.wk i hi
  obtain rfl : g = g₁ := by rw [hgt] at hg₁; exact Option.some.inj hg₁
  generalize hx : X i = x at hs
  cases hs with
  | @idle own got rk g w hw =>
    cases rk with
    | leaf => exact hand_recv O hA hAr ha hcs C hi hgt hx (hA _ _ _ (hw w (Rly.refl _ _) C.wc.base))
    | node f => exact hand_way O hA hAr ha hcs C hi hgt hx hw fun _ _ _ h => .idle h
  | @busy own got rk g w b hb hg hw =>
    cases rk with
    | leaf => exact hand_store O hA hAr ha hcs C hi hgt hb hg hx (hw w (Rly.refl _ _) C.wc.base)
    | node f => exact hand_way O hA hAr ha hcs C hi hgt hx hw fun _ _ _ h => .busy hb hg h
  | @over own got rk g w hw =>
    cases rk with
    | leaf =>
      obtain ⟨_, hl⟩ := hw w (Rly.refl _ _) C.wc.base
      obtain ⟨m, hm⟩ := hl ⟨_, _, C.wg⟩
      refine hand_lib O hA hAr ha hcs C hi hgt hrun (s := 7) (m := m) (dd := 0) (by rw [ds_at hx]) (by rw [ds_at hx]) (.inl (by rw [hx])) (fun m' _ => ?_) (.r0 hm)
      have e : ∀ d', Nearer c (X i) ⟨⟨7, m', d'⟩, (X i).own, (X i).got, .lib, (X i).rk⟩ r r := fun d' => .inr ⟨by rw [hx], .inl (by rw [hx]; show 2 * (c.n - r) + 0 < 2 * (c.n - r) + 1; omega)⟩
      exact ⟨e 0, e⟩
    | node f => exact hand_way O hA hAr ha hcs C hi hgt hx hw fun _ _ _ h => .over h
  | @lib own got rk g w s m d hl =>
    refine hand_lib O hA hAr ha hcs C hi hgt hrun (s := s) (m := m) (dd := d) (by rw [ds_at hx]) (by rw [ds_at hx]) (.inr (by rw [hx])) (fun m' hm => ?_) hl
    have e : ∀ d', Nearer c (X i) ⟨⟨s, m', d'⟩, (X i).own, (X i).got, .lib, (X i).rk⟩ r r := fun d' => .inr ⟨by rw [hx], .inr ⟨by rw [hx], .inr ⟨rfl, by rw [hx]; exact hm⟩⟩⟩
    exact ⟨e d, e⟩
end
end Go.Proofs.Ytebgcemglicjiaa

/- The starter's steps in company. No condition of ours. -/
namespace Go.Proofs.Ytebgcemglicjiaa
open Go.Conc Go.ConcN
open Go.ConcR (KK WgAt stA smA rd wr mk DC0 Bk g_of_ofEvents bk_of_mute ofEvent_loc_mark ofEvent_mk)
section
variable {P : Program} {c : Cfg} {Anch : (Nat → Prop) → Goroutine → World → Prop} {AnchW : Goroutine → World → Prop} {Post : Value → World → Prop}
  {gs : Array Goroutine} {w w' : World} {sl : Option (Nat × Nat)} {j r : Nat} {X : Nat → WX} {tag tag' : CTag} {f0 f' d0 : Nat} {a a' : Goroutine} {t : Trace} {st sm st' sm' : Int} {es : Array Event}
theorem mu1_start {c : Cfg} {tag tag' : CTag} {j r f0 f' : Nat} {X : Nat → WX} (h : phi c.h (Vc j (ds X)) tag' < phi c.h (Vc j (ds X)) tag ∨ (phi c.h (Vc j (ds X)) tag' = phi c.h (Vc j (ds X)) tag ∧ f' < f0)) :
    Mlt (mu1 c tag' j r f' X) (mu1 c tag j r f0 X) := by
  unfold mu1 Mlt
  rcases h with h | ⟨h1, h2⟩
  · exact Prod.Lex.left _ _ (by omega)
  · rw [h1]
    exact Prod.Lex.right _ (Prod.Lex.right _ (Prod.Lex.right _ (by omega)))
/-- Whatever step of the starter's that is no go statement. -/
theorem start_step (O : c.Ok) (hA : ∀ own g w, Anch own g w → AtRecv P c Anch own g w) (ha : gs[0]? = some a) (C : Co P c Anch j gs w t X r d0 tag st sm)
    (hgo : stepG P true a w = .go a' w' es) (hAs : Aside c.Wg w w') (hok : ∀ e ∈ es, ∀ x, (MemAct.ofEvent e).touch? = some x → ShN c.Wg x.loc ∧ x.kind ≠ .plain) (hnr : ∀ e ∈ es, e.loc ≠ .mark (.release (stA c.Wg)))
    (hcs' : CS P c Anch AnchW Post tag' j f' (deafBehind d0 es) a' w') (hwg' : WgAt c.ty c.Wg w' st' sm') (hmode' : Go.ConcN.Mode j (ds X) tag' st' sm')
    (hret : isRet tag' = isRet tag ∨ tag' = .ret) (hacq : tag' = .ret → AcqAll c.Wg j (t ++ MemOp.ofEvents 0 a.frame.fn a.frame.place es))
    (hlt : phi c.h (Vc j (ds X)) tag' < phi c.h (Vc j (ds X)) tag ∨ (phi c.h (Vc j (ds X)) tag' = phi c.h (Vc j (ds X)) tag ∧ f' < f0)) :
    ∃ m₁ ops μ', runT P (crowd gs w sl) 0 = (.next m₁, ops) ∧ Mlt μ' (mu1 c tag j r f0 X) ∧ Inv1 P c Anch AnchW Post μ' m₁ (t ++ ops) := by
  have hrun := runT_crowd_go (P := P) (sl := sl) (i := 0) ha (by simpa using hgo)
  have e : Eff c (fun _ => False) w w' := .wg _ hAs
  have H' := C.wc.wg O hAs
  have hm : ∀ op ∈ MemOp.ofEvents 0 a.frame.fn a.frame.place es, op.act ≠ .mark (.release (stA c.Wg)) := norel_of hnr
  have T0 := C.tc.main (u := MemOp.ofEvents 0 a.frame.fn a.frame.place es) O C.wc g_of_ofEvents (fun op hop x hx => by
    obtain ⟨_, ev, hev, hact⟩ := mem_ops hop
    rw [hact] at hx
    exact hok ev hev x hx) hm rfl (d1 := deafBehind d0 es) (by rw [Deaf_own, C.tc.deaf0])
  rw [← hAs.size] at T0
  have T1 : TC c j (t ++ MemOp.ofEvents 0 a.frame.fn a.frame.place es) X w'.heap.size r (deafBehind d0 es) (isRet tag') := by
    rcases hret with h | h
    · rw [h]; exact T0
    · have := T0.join (hacq h)
      rw [h]; exact this
  have hrm : RM c.ty c.Wg w w' := rm_wg hAs ⟨_, _, hwg'⟩
  refine ⟨_, _, mu1 c tag' j r f' X, hrun, mu1_start hlt, _, w', sl, j, X, r, tag', f', deafBehind d0 es, a', st', sm', rfl, get_map_set_same _ _ _ (by rw [C.size]; omega), hcs', ⟨C.jh, by simp [C.size], fun i hi => ?_, H', T1, hwg', hmode', hacq, C.out, C.done⟩, rfl⟩
  obtain ⟨x, hx, hsx⟩ := C.wk i hi
  refine ⟨x, ?_, hsx.rely (C.wc.rly O (i := j) e (fun _ h => h.elim) i (by omega)) hrm⟩
  rw [get_map_set _ _ _ _ (by omega), hx, Option.map_some]
  unfold Go.Conc.woken
  split
  · rw [again_running _ (hsx.status hA C.wc.base)]
  · rfl
theorem bk_ok {Wg : Nat} (h : ∀ e ∈ es, Bk Wg e) : ∀ e ∈ es, ∀ x, (MemAct.ofEvent e).touch? = some x → ShN Wg x.loc ∧ x.kind ≠ .plain := by
  intro e he x hx
  rcases h e he with h1 | h1 | ⟨ad, wr, rfl, had⟩
  · rw [ofEvent_loc_mark h1] at hx; cases hx
  · rw [ofEvent_loc_mark h1] at hx; cases hx
  · rw [Go.ConcR.ofEvent_cell] at hx
    simp only [MemAct.touch?, Option.some.injEq] at hx
    subst hx
    exact ⟨⟨ad, rfl, had⟩, by simp⟩
/-- An idle step. -/
theorem start_idle (O : c.Ok) (hA : ∀ own g w, Anch own g w → AtRecv P c Anch own g w) (ha : gs[0]? = some a) (C : Co P c Anch j gs w t X r d0 tag st sm)
    (hgo : stepG P true a w = .go a' w' es) (hD : DM c.Wg w w' es) (hcs' : CS P c Anch AnchW Post tag j f' d0 a' w') (hf : f' < f0) :
    ∃ m₁ ops μ', runT P (crowd gs w sl) 0 = (.next m₁, ops) ∧ Mlt μ' (mu1 c tag j r f0 X) ∧ Inv1 P c Anch AnchW Post μ' m₁ (t ++ ops) := by
  obtain ⟨rfl, hev⟩ := hD
  have hdf : deafBehind d0 es = d0 := deafBehind_idle (fun e he => ⟨(hev e he).2.1, (hev e he).2.2.1⟩) d0
  exact start_step O hA ha C hgo (.refl _ _) (fun e he => (hev e he).1) (fun e he => (hev e he).2.2.2) (by rw [hdf]; exact hcs') C.wg C.mode (.inl rfl) (fun e => (C.acq e).app fun i q _ hq => hq.appOther g_of_ofEvents (by omega)) (.inr ⟨rfl, hf⟩)
/-- A step of the library's bookkeeping. -/
theorem start_book (O : c.Ok) (hA : ∀ own g w, Anch own g w → AtRecv P c Anch own g w) (ha : gs[0]? = some a) (C : Co P c Anch j gs w t X r d0 tag st sm) (h0 : tag ≠ .ret)
    (hgo : stepG P true a w = .go a' w' es) (hAs : Aside c.Wg w w') (hwg' : WgAt c.ty c.Wg w' st' sm') (hbk : ∀ e ∈ es, Bk c.Wg e) (hcs' : CS P c Anch AnchW Post tag' j f' (deafBehind d0 es) a' w')
    (hmode' : Go.ConcN.Mode j (ds X) tag' st' sm') (hne : tag' ≠ .ret) (hlt : phi c.h (Vc j (ds X)) tag' < phi c.h (Vc j (ds X)) tag ∨ (phi c.h (Vc j (ds X)) tag' = phi c.h (Vc j (ds X)) tag ∧ f' < f0)) :
    ∃ m₁ ops μ', runT P (crowd gs w sl) 0 = (.next m₁, ops) ∧ Mlt μ' (mu1 c tag j r f0 X) ∧ Inv1 P c Anch AnchW Post μ' m₁ (t ++ ops) :=
  start_step O hA ha C hgo hAs (bk_ok hbk) (norel_of_Bk hbk) hcs' hwg' hmode' (.inl (by rw [ret_false h0, ret_false hne])) (fun e => absurd e hne) hlt
theorem start_w1 (O : c.Ok) (hA : ∀ own g w, Anch own g w → AtRecv P c Anch own g w) (ha : gs[0]? = some a) (C : Co P c Anch c.h gs w t X r 1 .w1 st sm)
    (h : Goes P true (RM c.ty c.Wg) (DM c.Wg) (MW1 P c.ty c.Wg AnchW (TailP P c Post)) f0 a w) :
    ∃ m₁ ops μ', runT P (crowd gs w sl) 0 = (.next m₁, ops) ∧ Mlt μ' (mu1 c .w1 c.h r f0 X) ∧ Inv1 P c Anch AnchW Post μ' m₁ (t ++ ops) := by
  have hh : c.h < 2147483647 := by have := O.h8; omega
  rcases Goes.cases h with hstop | ⟨m', rfl, hstep⟩
  · obtain ⟨_, hall⟩ := hstop w (RM.refl _ _ w)
    have hwg := C.wg
    obtain ⟨ho, rfl, rfl, _⟩ := C.mode.open_inv trivial
    have hV := Vc_le c.h (ds X)
    obtain ⟨a', hgo, h0, hne⟩ := hall (Vc c.h (ds X)) (by omega) (by simpa [pend] using hwg)
    by_cases hv : Vc c.h (ds X) = 0
    · obtain ⟨m₂, hk⟩ := h0 hv
      refine start_book O hA ha C (by simp) hgo (.refl c.Wg w) hwg bk_rd (tag' := .ke) (.ke hk) ?_ (by simp) (.inl (by simp only [phi]; omega))
      have e : ((Vc c.h (ds X) + pend .w1 : Nat) : Int) * KK = 0 := by rw [hv]; simp [pend]
      rw [e]
      exact .fin trivial (allQuit_of ho hv)
    · obtain ⟨m₂, hk⟩ := hne hv
      exact start_book O hA ha C (by simp) hgo (.refl c.Wg w) hwg bk_rd (tag' := .w2 (Vc c.h (ds X))) (.w2 hk) (C.mode.reopen trivial trivial rfl (fun vs e => by cases e; omega)) (by simp) (.inl (by simp only [phi]; omega))
  · obtain ⟨a', w', es, hgo, hD, hg'⟩ := hstep w (RM.refl _ _ w)
    exact start_idle O hA ha C hgo hD (.w1 hg') (by omega)
theorem mlt_trans {x y z : Mu} (h : Mlt x y) (h' : Mlt y z) (hf : x.1 < y.1 ∨ y.1 < z.1) : Mlt x z := by
  obtain ⟨x1, x2⟩ := x
  obtain ⟨y1, y2⟩ := y
  obtain ⟨z1, z2⟩ := z
  refine Prod.Lex.left _ _ ?_
  rcases Prod.lex_def.1 h with h | ⟨h, _⟩ <;> rcases Prod.lex_def.1 h' with k | ⟨k, _⟩ <;> simp only at * <;> omega
/-- The hands have all left, and the starter is at its tail. -/
def AtTail (P : Program) (c : Cfg) (Anch : (Nat → Prop) → Goroutine → World → Prop) (Post : Value → World → Prop) (a : Goroutine) (gs : Array Goroutine) (w : World) (t : Trace) (X : Nat → WX) (r : Nat) (st sm : Int) : Prop :=
  Co P c Anch c.h gs w t X r 0 .ret st sm ∧ TailP P c Post a w
set_option maxHeartbeats 1600000 in
theorem start_any (O : c.Ok) (hA : ∀ own g w, Anch own g w → AtRecv P c Anch own g w) (hAn : ∀ g w, AnchW g w → Go1 P true (RM c.ty c.Wg) (DM c.Wg) (MW1 P c.ty c.Wg AnchW (TailP P c Post)) w g)
    (ha : gs[0]? = some a) (hcs : CS P c Anch AnchW Post tag j f0 d0 a w) (C : Co P c Anch j gs w t X r d0 tag st sm) (hrun : a.status = .running) :
    AtTail P c Anch Post a gs w t X r st sm ∨
    (∃ m₁ ops μ', runT P (crowd gs w sl) 0 = (.next m₁, ops) ∧ Mlt μ' (mu1 c tag j r f0 X) ∧ Inv1 P c Anch AnchW Post μ' m₁ (t ++ ops)) := by
  have hh : c.h < 1000 := O.h8
  have hVj := Vc_le j (ds X)
  have hjh := C.jh
  have hwg := C.wg
  have hmode := C.mode
  cases hcs with
  | skd hr h =>
    rcases Goes.cases h with hstop | ⟨m', rfl, hstep⟩
    · obtain ⟨_, a', hgo, m₂, hk⟩ := hstop w (RM.refl _ _ w)
      exact .inr (start_book O hA ha C (by simp) hgo (.refl _ w) hwg bk_dis (.sa1 hr hk) (hmode.reopen trivial trivial rfl (by simp)) (by simp) (.inl (by simp only [phi]; omega)))
    · obtain ⟨a', w', es, hgo, hD, hg'⟩ := hstep w (RM.refl _ _ w)
      exact .inr (start_idle O hA ha C hgo hD (.skd hr hg') (by omega))
  | sa1 hr h =>
    rename_i r'
    rcases Goes.cases h with hstop | ⟨m', rfl, hstep⟩
    · obtain ⟨_, hall⟩ := hstop w (RM.refl _ _ w)
      obtain ⟨ho, rfl, rfl, _⟩ := hmode.open_inv trivial
      obtain ⟨a', hgo, m₂, hk⟩ := hall (Vc (c.h - (r' + 1)) (ds X)) (by omega) (by simpa [pend] using hwg)
      refine .inr (start_book O hA ha C (by simp) hgo (aside_setCell w (stA c.Wg) _) (hwg.setSt _) bk_rw (.ske hr hk) ?_ (by simp) (.inl (by simp only [phi]; omega)))
      have e : (((Vc (c.h - (r' + 1)) (ds X) : Nat) : Int) + 1) * KK = ((Vc (c.h - (r' + 1)) (ds X) + pend (.sp r' 3) : Nat) : Int) * KK := by simp [pend]
      rw [e]
      exact .opn trivial ho (by simp)
    · obtain ⟨a', w', es, hgo, hD, hg'⟩ := hstep w (RM.refl _ _ w)
      exact .inr (start_idle O hA ha C hgo hD (.sa1 hr hg') (by omega))
  | ske hr h =>
    rcases Goes.cases h with hstop | ⟨m', rfl, hstep⟩
    · obtain ⟨_, a', hgo, m₂, hk⟩ := hstop w (RM.refl _ _ w)
      exact .inr (start_book O hA ha C (by simp) hgo (.refl _ w) hwg bk_en (.sgo hr hk) (hmode.reopen trivial trivial rfl (by simp)) (by simp) (.inl (by simp only [phi]; omega)))
    · obtain ⟨a', w', es, hgo, hD, hg'⟩ := hstep w (RM.refl _ _ w)
      exact .inr (start_idle O hA ha C hgo hD (.ske hr hg') (by omega))
  | sgo hr h =>
    rename_i r'
    rcases Goes.cases h with hstop | ⟨m', rfl, hstep⟩
    · obtain ⟨_, a', child, hsp, _, ⟨tr, htr⟩, hnext⟩ := hstop w (RM.refl _ _ w)
      obtain ⟨ho, rfl, rfl, _⟩ := hmode.open_inv trivial
      have hrun' := runT_crowd_spawn (P := P) (sl := sl) (i := 0) ha (by simpa using hsp)
      rw [C.size] at hrun'
      generalize hj : c.h - (r' + 1) = j at *
      have ej : j + 1 = c.h - r' := by omega
      let x' : WX := ⟨⟨7, 0, 0⟩, fun _ => False, fun _ => False, .idle, tr⟩
      have h0 : ∀ l, ¬ LocW c x' l := by
        rintro l (⟨ad, _, h | ⟨_, q, h, _⟩⟩ | ⟨b, _, h⟩) <;> exact h
      have T' := C.tc.fork O C.wc (x := { g := 0, fn := a.frame.fn, pos := a.frame.place, act := .go (j + 1) }) (y := { g := j + 1, fn := child.frame.fn, pos := a.frame.place, act := .start }) ⟨rfl, rfl⟩ ⟨rfl, rfl⟩ (x' := x') h0 (C.out j (Nat.le_refl _)) rfl
      have oe : ∀ b, ¬ (X j).own b := fun b h => C.out j (Nat.le_refl _) (.obj b) (.inr ⟨b, rfl, h⟩)
      have hph : (upd X j x' j).ph = .idle := by rw [upd_same]
      have H' : WC c (j + 1) w (upd X j x') r := by
        have := C.wc.upd O (i := j) (x' := x') (r' := r) (Eff.refl c _ w) (fun _ h => h.elim) (fun _ h => h.elim) (Nat.le_refl _) C.wc.rle C.wc.ch (by
          obtain ⟨cs, h1, h2, h3⟩ := C.wc.ob
          exact ⟨cs, h1, h2, fun b hb hp => h3 b hb fun k hk he => hp k hk (by rw [upd_ne X _ (by omega)]; exact he)⟩)
        refine { this with ob := ?_ }
        obtain ⟨cs, h1, h2, h3⟩ := C.wc.ob
        exact ⟨cs, h1, h2, fun b hb hp => h3 b hb fun k hk he => hp k (by omega) (by rw [upd_ne X _ (by omega)]; exact he)⟩
      have eV : Vc (j + 1) (ds (upd X j x')) = Vc j (ds X) + 1 := by
        rw [ds_upd]
        simp only [Vc, sumTo, upd_same]
        rw [sumTo_upd_out (ds X) _ cnt (Nat.le_refl _)]; rfl
      have eS : Ssum (j + 1) (ds (upd X j x')) = Ssum j (ds X) + 7 := by
        rw [ds_upd]
        simp only [Ssum, sumTo, upd_same]
        rw [sumTo_upd_out (ds X) _ WD.stage (Nat.le_refl _)]
      have ho' : OpenSt (j + 1) (ds (upd X j x')) := fun i hi => by
        rw [ds_upd]
        by_cases e : i = j
        · subst e; rw [upd_same]; exact .inl rfl
        · rw [upd_ne (ds X) _ e]; exact ho i (by omega)
      have ha' : ((gs.setIfInBounds 0 a').push child)[0]? = some a' := by
        rw [Array.getElem?_push_lt (by simp [C.size]), ← Array.getElem?_eq_getElem]
        simp [C.size]
      have wk' : ∀ i, i < j + 1 → ∃ g, ((gs.setIfInBounds 0 a').push child)[i + 1]? = some g ∧ Sit P c Anch (upd X j x' i) g w := fun i hi => by
        rcases Nat.lt_or_ge i j with hlt | hge
        · obtain ⟨g, hg, hsg⟩ := C.wk i hlt
          refine ⟨g, ?_, by rw [upd_ne X _ (by omega)]; exact hsg⟩
          rw [Array.getElem?_push_lt (by simp [C.size]; omega), ← Array.getElem?_eq_getElem, Array.getElem?_setIfInBounds_ne (by omega)]
          exact hg
        · obtain rfl : i = j := by omega
          refine ⟨child, ?_, by rw [upd_same]; exact .idle htr⟩
          rw [show i + 1 = (gs.setIfInBounds 0 a').size by simp [C.size], Array.getElem?_push_size]
      have Cn : ∀ (tag' : CTag), pend tag' = 0 → isOpen tag' → (∀ vs, tag' ≠ .w2 vs) → isRet tag' = false → Co P c Anch (j + 1) ((gs.setIfInBounds 0 a').push child) w (t ++ #[({ g := 0, fn := a.frame.fn, pos := a.frame.place, act := .go (j + 1) } : MemOp), { g := j + 1, fn := child.frame.fn, pos := a.frame.place, act := .start }]) (upd X j x') r 0 tag' (((Vc j (ds X) + pend (.sp r' 2) : Nat) : Int) * KK) 0 := fun tag' hp ho2 hw2 hr2 => by
        have e : ((Vc j (ds X) + pend (.sp r' 2) : Nat) : Int) * KK = ((Vc (j + 1) (ds (upd X j x')) + pend tag' : Nat) : Int) * KK := by rw [eV, hp]; simp [pend]
        refine ⟨by omega, by simp [C.size], wk', H', by rw [hr2]; exact T', hwg, ?_, ?_, ?_, ?_⟩
        · rw [e]
          exact .opn ho2 ho' (fun vs e => absurd e (hw2 vs))
        · intro e; rw [e] at hr2; cases hr2
        · intro i hi l
          rw [upd_ne X _ (by omega)]
          exact C.out i (by omega) l
        · intro i hi hp2
          by_cases e : i = j
          · subst e; rw [upd_same] at hp2; simp [x'] at hp2
          · rw [upd_ne X _ e] at hp2; exact C.done i (by omega) hp2
      have hops : ((MemOp.ofEvents 0 a.frame.fn a.frame.place #[]).push { g := 0, fn := a.frame.fn, pos := a.frame.place, act := .go (j + 1) }).push { g := j + 1, fn := child.frame.fn, pos := a.frame.place, act := .start } = #[({ g := 0, fn := a.frame.fn, pos := a.frame.place, act := .go (j + 1) } : MemOp), { g := j + 1, fn := child.frame.fn, pos := a.frame.place, act := .start }] := by rw [ofEvents_eq]; simp
      rw [hops] at hrun'
      cases r' with
      | zero =>
        obtain ⟨m₃, hk⟩ := hnext
        have ejn : j + 1 = c.h := by omega
        have hcs' : CS P c Anch AnchW Post .kd (j + 1) m₃ 0 a' w := by rw [ejn]; exact .kd hk
        refine .inr ⟨_, _, mu1 c .kd (j + 1) r m₃ (upd X j x'), hrun', Prod.Lex.left _ _ ?_, _, w, sl, j + 1, _, r, .kd, m₃, 0, a', _, _, rfl, ha', hcs', Cn .kd rfl trivial (by simp) rfl, rfl⟩
        simp only [phi]; omega
      | succ r'' =>
        obtain ⟨m₃, hk⟩ := hnext
        have ejn : c.h - (r'' + 1) = j + 1 := by omega
        have hcs' : CS P c Anch AnchW Post (.sp r'' 5) (j + 1) m₃ 0 a' w := by rw [← ejn]; exact .skd (by omega) hk
        refine .inr ⟨_, _, mu1 c (.sp r'' 5) (j + 1) r m₃ (upd X j x'), hrun', Prod.Lex.left _ _ ?_, _, w, sl, j + 1, _, r, .sp r'' 5, m₃, 0, a', _, _, rfl, ha', hcs', Cn (.sp r'' 5) rfl trivial (by simp) rfl, rfl⟩
        simp only [phi]; omega
    · obtain ⟨a', w', es, hgo, hD, hg'⟩ := hstep w (RM.refl _ _ w)
      exact .inr (start_idle O hA ha C hgo hD (.sgo hr hg') (by omega))
  | kd h =>
    rcases Goes.cases h with hstop | ⟨m', rfl, hstep⟩
    · obtain ⟨_, a', hgo, m₂, hk⟩ := hstop w (RM.refl _ _ w)
      exact .inr (start_book O hA ha C (by simp) hgo (.refl _ w) hwg bk_dis (.anch hk) (hmode.reopen trivial trivial rfl (by simp)) (by simp) (.inl (by simp only [phi]; omega)))
    · obtain ⟨a', w', es, hgo, hD, hg'⟩ := hstep w (RM.refl _ _ w)
      exact .inr (start_idle O hA ha C hgo hD (.kd hg') (by omega))
  | anch h =>
    rcases Goes.cases h with hstop | ⟨m', rfl, hstep⟩
    · obtain ⟨m₂, hk⟩ := hAn a w (hstop w (RM.refl _ _ w))
      have C1 : Co P c Anch c.h gs w t X r 1 .w1 st sm := ⟨C.jh, C.size, C.wk, C.wc, C.tc, C.wg, hmode.reopen trivial trivial rfl (by simp), by simp, C.out, C.done⟩
      obtain ⟨m₁, ops, μ', h1, h2, h3⟩ := start_w1 (sl := sl) O hA ha C1 hk
      have hl : (mu1 c .w1 c.h r m₂ X).1 < (mu1 c .anch c.h r f0 X).1 := by simp only [mu1, phi]; omega
      exact .inr ⟨m₁, ops, μ', h1, mlt_trans h2 (Prod.Lex.left _ _ hl) (.inr hl), h3⟩
    · obtain ⟨a', w', es, hgo, hD, hg'⟩ := hstep w (RM.refl _ _ w)
      exact .inr (start_idle O hA ha C hgo hD (.anch hg') (by omega))
  | w1 h => exact .inr (start_w1 O hA ha C h)
  | w2 h =>
    rename_i vs
    rcases Goes.cases h with hstop | ⟨m', rfl, hstep⟩
    · obtain ⟨_, hall⟩ := hstop w (RM.refl _ _ w)
      obtain ⟨ho, rfl, rfl, hw2⟩ := hmode.open_inv trivial
      obtain ⟨hle, h1⟩ := hw2 vs rfl
      obtain ⟨hhit, hmiss⟩ := hall (Vc c.h (ds X)) (by omega) (by simpa [pend] using hwg)
      by_cases e : Vc c.h (ds X) = vs
      · obtain ⟨a', hgo, m₂, hk⟩ := hhit e
        exact .inr (start_book O hA ha C (by simp) hgo (aside_setCell w (stA c.Wg) _) (hwg.setSt _) bk_rw (.w3 hk) (.reg trivial ho (by omega)) (by simp) (.inl (by simp only [phi]; omega)))
      · obtain ⟨a', hgo, m₂, hk⟩ := hmiss e
        exact .inr (start_book O hA ha C (by simp) hgo (.refl _ w) hwg bk_rd (.anch hk) (hmode.reopen trivial trivial rfl (by simp)) (by simp) (.inl (by simp only [phi]; omega)))
    · obtain ⟨a', w', es, hgo, hD, hg'⟩ := hstep w (RM.refl _ _ w)
      exact .inr (start_idle O hA ha C hgo hD (.w2 hg') (by omega))
  | w3 h =>
    rcases Goes.cases h with hstop | ⟨m', rfl, hstep⟩
    · obtain ⟨_, hoff, hblk, htake⟩ := hstop w (RM.refl _ _ w)
      cases hmode with
      | opn h1 _ _ => exact h1.elim
      | reg h1 h2 h3 => exact .inr (start_book O hA ha C (by simp) (hblk ⟨_, hwg⟩) (.refl _ w) hwg (by simp) (.blk hstop) (.reg trivial h2 h3) (by simp) (.inr ⟨rfl, by omega⟩))
      | last L h1 h2 h3 h4 => exact .inr (start_book O hA ha C (by simp) (hblk ⟨_, hwg⟩) (.refl _ w) hwg (by simp) (.blk hstop) (.last L trivial h2 h3 h4) (by simp) (.inr ⟨rfl, by omega⟩))
      | sema h2 =>
        obtain ⟨a', hgo, m₂, hk⟩ := htake hwg
        exact .inr (start_book O hA ha C (by simp) hgo (aside_setCell w (smA c.Wg) _) (hwg.setSm 0) bk_sem (.w4 hk) (.fin trivial h2) (by simp) (.inl (by simp only [phi]; omega)))
      | fin h1 _ => exact h1.elim
    · obtain ⟨a', w', es, hgo, hD, hg'⟩ := hstep w (RM.refl _ _ w)
      exact .inr (start_idle O hA ha C hgo hD (.w3 hg') (by omega))
  | blk h => simp at hrun
  | w4 h =>
    rcases Goes.cases h with hstop | ⟨m', rfl, hstep⟩
    · obtain ⟨_, hx⟩ := hstop w (RM.refl _ _ w)
      obtain ⟨hq, rfl, rfl⟩ := hmode.fin_inv trivial
      obtain ⟨a', hgo, m₂, hk⟩ := hx hwg
      exact .inr (start_book O hA ha C (by simp) hgo (.refl _ w) hwg bk_rd (.ke hk) (.fin trivial hq) (by simp) (.inl (by simp only [phi]; omega)))
    · obtain ⟨a', w', es, hgo, hD, hg'⟩ := hstep w (RM.refl _ _ w)
      exact .inr (start_idle O hA ha C hgo hD (.w4 hg') (by omega))
  | ke h =>
    rcases Goes.cases h with hstop | ⟨m', rfl, hstep⟩
    · obtain ⟨_, a', hgo, m₂, hk⟩ := hstop w (RM.refl _ _ w)
      obtain ⟨hq, rfl, rfl⟩ := hmode.fin_inv trivial
      exact .inr (start_book O hA ha C (by simp) hgo (.refl _ w) hwg bk_en (.acq hk) (.fin trivial hq) (by simp) (.inl (by simp only [phi]; omega)))
    · obtain ⟨a', w', es, hgo, hD, hg'⟩ := hstep w (RM.refl _ _ w)
      exact .inr (start_idle O hA ha C hgo hD (.ke hg') (by omega))
  | acq h =>
    rcases Goes.cases h with hstop | ⟨m', rfl, hstep⟩
    · obtain ⟨_, a', hgo, m₂, hk⟩ := hstop w (RM.refl _ _ w)
      obtain ⟨hq, rfl, rfl⟩ := hmode.fin_inv trivial
      refine .inr (start_step O hA ha C hgo (.refl _ w) (by intro e he x hx; simp at he; subst he; cases hx) (by intro e he; simp at he; subst he; simp [mk]) (.ret hk) hwg (.fin trivial hq) (.inr rfl) (fun _ => ?_) (.inl (by simp only [phi]; omega)))
      have e1 : MemOp.ofEvents 0 a.frame.fn a.frame.place #[mk (.acquire (stA c.Wg))] = #[{ g := 0, fn := a.frame.fn, pos := a.frame.place, act := .mark (.acquire (stA c.Wg)) }] := by rw [ofEvents_eq]; simp [ofEvent_mk]
      have hy : (t ++ #[({ g := 0, fn := a.frame.fn, pos := a.frame.place, act := .mark (.acquire (stA c.Wg)) } : MemOp)])[t.size]? = some { g := 0, fn := a.frame.fn, pos := a.frame.place, act := .mark (.acquire (stA c.Wg)) } := by simp
      refine ⟨t.size, by rw [e1, act?_of hy], by rw [e1]; simp [Trace.g?], by rw [e1]; exact ⟨0, by simp [Trace.g?], by rw [deaf_old (Nat.le_refl _)]; exact C.tc.deaf0⟩, fun i hi => ?_⟩
      obtain ⟨q, hr⟩ := C.tc.rel i hi (by have := hq i hi; simp only [ds] at this; omega)
      exact ⟨q, hr.appOther g_of_ofEvents (by omega), lt_of_act? hr.act⟩
    · obtain ⟨a', w', es, hgo, hD, hg'⟩ := hstep w (RM.refl _ _ w)
      exact .inr (start_idle O hA ha C hgo hD (.acq hg') (by omega))
  | ret h =>
    rcases Goes.cases h with hstop | ⟨m', rfl, hstep⟩
    · exact .inl ⟨C, hstop w (RM.refl _ _ w)⟩
    · obtain ⟨a', w', es, hgo, hD, hg'⟩ := hstep w (RM.refl _ _ w)
      exact .inr (start_idle O hA ha C hgo hD (.ret hg') (by omega))
end
end Go.Proofs.Ytebgcemglicjiaa

namespace Go.Proofs.Ytebgcemglicjiaa
open Go.Conc Go.ConcN
open Go.ConcR (KK WgAt stA smA rd wr mk DC0 Bk g_of_ofEvents bk_of_mute ofEvent_loc_mark ofEvent_mk)
structure T2 (c : Cfg) (t : Trace) (Q : Nat → Nat × Nat) : Prop where
  ct : CT (ShN c.Wg) (fun _ _ => False) (fun _ _ => False) t c.h
  norel : NoRelease (stA c.Wg) t
  deaf0 : Deaf t 0 = 0
  deafW : ∀ i, i < c.h → Deaf t (i + 1) = (Q i).2
  acq : AcqAll c.Wg c.h t
def rk2 (t : Tr) (i : Nat) : Tr := if i = 0 then t else .leaf
section
variable (P : Program) (c : Cfg) (Post : Value → World → Prop)
def Inv2 (μ : Mu) (m : Machine) (t : Trace) : Prop :=
  ∃ gs w sl a own rk Q, m = crowd gs w sl ∧ gs[0]? = some a ∧ gs.size = c.h + 1 ∧ WayK P true c.Ko (fun _ => False) (AtEnd P Post) rk own a w ∧ (∀ b, own b → b < w.heap.size ∧ b ≠ c.Wg) ∧ (c.Wg < w.heap.size ∧ c.Ko w) ∧
    (∀ i, i < c.h → ∃ g, gs[i + 1]? = some g ∧ QuitsD P (Q i).1 (Q i).2 g) ∧ T2 c t Q ∧ μ = (0, 0, rk2 rk, sumTo c.h fun i => (Q i).1)
end
section
variable {P : Program} {c : Cfg} {Anch : (Nat → Prop) → Goroutine → World → Prop} {AnchW : Goroutine → World → Prop} {Post : Value → World → Prop}
  {gs : Array Goroutine} {w w' : World} {sl : Option (Nat × Nat)} {a a' : Goroutine} {t : Trace} {es : Array Event} {Q : Nat → Nat × Nat}
/-- The starter's step, or its return, behind the join. -/
theorem tail_main {own : Nat → Prop} {rk : Tr} (ha : gs[0]? = some a) (hsz : gs.size = c.h + 1) (hw : WayK P true c.Ko (fun _ => False) (AtEnd P Post) rk own a w) (hown : ∀ b, own b → b < w.heap.size ∧ b ≠ c.Wg) (hwg : c.Wg < w.heap.size ∧ c.Ko w)
    (hq : ∀ i, i < c.h → ∃ g, gs[i + 1]? = some g ∧ QuitsD P (Q i).1 (Q i).2 g) (T : T2 c t Q) :
    (∃ o w₁ ops, runT P (crowd gs w sl) 0 = (.ended o w₁, ops) ∧ ∀ w₀ sl₀, Good P Post (crowd gs w₀ sl₀) o w₁ (t ++ ops)) ∨
    (∃ m₁ ops μ', runT P (crowd gs w sl) 0 = (.next m₁, ops) ∧ μ'.1 = 0 ∧ Mlt μ' (0, 0, rk2 rk, sumTo c.h fun i => (Q i).1) ∧ Inv2 P c Post μ' m₁ (t ++ ops)) := by
  have okm : ∀ {own' : Nat → Prop} {es : Array Event}, (∀ b, own' b → b ≠ c.Wg) → (∀ e ∈ es, Mine own' e) → CT (ShN c.Wg) (fun _ _ => False) (fun _ _ => False) (t ++ MemOp.ofEvents 0 a.frame.fn a.frame.place es) c.h ∧ NoRelease (stA c.Wg) (t ++ MemOp.ofEvents 0 a.frame.fn a.frame.place es) ∧ Deaf (t ++ MemOp.ofEvents 0 a.frame.fn a.frame.place es) 0 = 0 := by
    intro own' es ho hev
    refine ⟨T.ct.app0 apart_none fun op hop => ?_, T.norel.app (norel_of fun e he => (hev e he).marks.2.2 _), ?_⟩
    · obtain ⟨hg, ev, hev', hact⟩ := mem_ops hop
      refine ⟨hg, fun x hx => .inr ⟨?_, fun _ _ _ h => h, fun _ _ _ _ h => h⟩⟩
      rw [hact] at hx
      rintro ⟨ad, e, had⟩
      rcases ((hev ev hev').touch x hx).2 with ⟨ad', e', h⟩ | ⟨b, e', _⟩
      · rw [e] at e'; cases e'; exact ho _ h had
      · rw [e] at e'; cases e'
    · rw [Deaf_own, T.deaf0]
      exact deafBehind_idle (fun e he => ⟨(hev e he).marks.1, (hev e he).marks.2.1⟩) 0
  have dW : ∀ es : Array Event, ∀ i, i < c.h → Deaf (t ++ MemOp.ofEvents 0 a.frame.fn a.frame.place es) (i + 1) = (Q i).2 := fun es i hi => by rw [Deaf_other t (g' := 0) (by omega) _ g_of_ofEvents, T.deafW i hi]
  have aq : ∀ es : Array Event, AcqAll c.Wg c.h (t ++ MemOp.ofEvents 0 a.frame.fn a.frame.place es) := fun es => T.acq.app fun i q _ hr => hr.appOther g_of_ofEvents (by omega)
  cases rk with
  | leaf =>
    obtain ⟨_, v, es, hend, hev, hpost⟩ := hw w (Rly.refl _ _) hwg.2
    obtain ⟨hct, hnr, _⟩ := okm (fun b h => (hown b h).2) hev
    have wkq : ∀ i g, gs[i]? = some g → i ≠ 0 → ∃ i', i = i' + 1 ∧ i' < c.h ∧ QuitsD P (Q i').1 (Q i').2 g := by
      intro i g hg hi0
      obtain ⟨i', rfl⟩ : ∃ i', i = i' + 1 := ⟨i - 1, by omega⟩
      have hlt : i' < c.h := by have := (Array.getElem?_eq_some_iff.1 hg).1; omega
      obtain ⟨g', hg', hs'⟩ := hq i' hlt
      rw [hg] at hg'
      cases hg'
      exact ⟨i', rfl, hlt, hs'⟩
    refine .inl ⟨_, _, _, runT_crowd_ended ha (by simpa using hend), fun w₀ sl₀ => ⟨v, rfl, hpost, hct.nr, ?_, ⟨fun g hg => ?_, rfl⟩, fun i g hg hi0 => ?_⟩⟩
    · obtain ⟨q, h1, h2, h3, h4⟩ := aq es
      refine handedOver_all (fun i g hgi hne => ?_) hnr h1 h2 h3
      obtain ⟨op, ho, rfl⟩ := Option.map_eq_some_iff.1 hgi
      have := hct.gs i op ho
      have := h4 (op.g - 1) (by omega)
      rwa [show op.g - 1 + 1 = op.g by omega] at this
    · obtain ⟨i, hi⟩ := List.mem_iff_getElem?.1 hg
      rw [List.getElem?_drop] at hi
      obtain ⟨i', _, _, hqq⟩ := wkq (1 + i) g (by simpa [crowd] using hi) (by omega)
      exact ⟨_, hqq.leaves⟩
    · obtain ⟨i', rfl, hlt, hqq⟩ := wkq i g hg hi0
      refine ⟨(Q i').1, ?_⟩
      have : (t ++ MemOp.ofEvents 0 a.frame.fn a.frame.place es).deaf (i' + 1) (t ++ MemOp.ofEvents 0 a.frame.fn a.frame.place es).size = (Q i').2 := dW es i' hlt
      rw [this]
      exact hqq.hears _
  | node f =>
    obtain ⟨own', a', w', ⟨es, hgo, _, A⟩, k⟩ := hw w (Rly.refl _ _) hwg.2
    have hev : ∀ e ∈ es, Mine own' e := fun e he => (A.evs e he).elim id fun ⟨_, _, h⟩ => h.elim
    have hown' : ∀ b, own' b → b < w'.heap.size ∧ b ≠ c.Wg := fun b hb => by
      rcases A.new b hb with h | h
      · exact ⟨Nat.lt_of_lt_of_le (hown b h).1 A.size, (hown b h).2⟩
      · exact ⟨h.2, by omega⟩
    obtain ⟨h1, h2, h3⟩ := okm (fun b h => (hown' b h).2) hev
    refine .inr ⟨_, _, (0, 0, rk2 (f w), sumTo c.h fun i => (Q i).1), runT_crowd_go ha (by simpa using hgo), rfl, ?_, _, w', sl, a', own', f w, Q, rfl, get_map_set_same _ _ _ (by omega), by simp [hsz], k, hown', ⟨Nat.lt_of_lt_of_le hwg.1 A.size, A.os.trans hwg.2.1, A.output.trans hwg.2.2⟩, fun i hi => ?_, ⟨h1, h2, h3, dW es, aq es⟩, rfl⟩
    · refine Prod.Lex.right _ (Prod.Lex.right _ (Prod.Lex.left _ _ ⟨0, by omega, ?_, fun k hk => ?_⟩))
      · show Tr.lt (rk2 (f w) 0) (rk2 (.node f) 0)
        simp only [rk2, if_true]
        exact ⟨w, rfl⟩
      · show rk2 (f w) k = rk2 (.node f) k
        simp [rk2, hk]
    · obtain ⟨g, hg, hs⟩ := hq i hi
      refine ⟨g, ?_, hs⟩
      rw [get_map_set _ _ _ _ (by omega), hg, Option.map_some, woken_quitsD hs]
theorem tail_hand {own : Nat → Prop} {rk : Tr} (ha : gs[0]? = some a) (hsz : gs.size = c.h + 1) (hw : WayK P true c.Ko (fun _ => False) (AtEnd P Post) rk own a w) (hown : ∀ b, own b → b < w.heap.size ∧ b ≠ c.Wg) (hwg : c.Wg < w.heap.size ∧ c.Ko w)
    (hq : ∀ i, i < c.h → ∃ g, gs[i + 1]? = some g ∧ QuitsD P (Q i).1 (Q i).2 g) (T : T2 c t Q) {i : Nat} (hi : i < c.h) {g : Goroutine} (hg : gs[i + 1]? = some g) (hrun : g.status = .running) :
    ∃ m₁ ops μ', runT P (crowd gs w sl) (i + 1) = (.next m₁, ops) ∧ Mlt μ' (0, 0, rk2 rk, sumTo c.h fun i => (Q i).1) ∧ Inv2 P c Post μ' m₁ (t ++ ops) := by
  obtain ⟨g₁, hg₁, hs⟩ := hq i hi
  obtain rfl : g = g₁ := by rw [hg] at hg₁; exact Option.some.inj hg₁
  generalize hQ : Q i = qd at hs
  obtain ⟨q, d⟩ := qd
  cases q with
  | zero => rw [hs.1] at hrun; cases hrun
  | succ q =>
    rcases hs with ⟨hf, _⟩ | ⟨_, g', es, hmute, hstep, hs'⟩
    · rw [hf] at hrun; cases hrun
    · have hbk : ∀ e ∈ es, Bk c.Wg e := fun e he => bk_of_mute (hmute e he)
      have hno : ∀ jx e, es[jx]? = some e → (MemAct.ofEvent e).touch? = none ∨ 0 < deafBehind d (es.extract 0 jx) := fun jx e he => .inl (by
        rcases bk_of_mute (Wg := c.Wg) (hmute e (Array.mem_of_getElem? he)) with h1 | h1 | ⟨a, wr, rfl, _⟩
        · rw [ofEvent_loc_mark h1]; rfl
        · rw [ofEvent_loc_mark h1]; rfl
        · have := hmute _ (Array.mem_of_getElem? he); simp [Event.mute] at this)
      have hdk : Deaf t (i + 1) = d := by rw [T.deafW i hi, hQ]
      have hst : a.status = .running := hw.running hwg.2 fun h => h.1
      refine ⟨_, _, (0, 0, rk2 rk, sumTo c.h fun k => (upd Q i (q, deafBehind d es) k).1), runT_crowd_go hg (by simpa using hstep w), ?_, _, w, sl, a, own, rk, upd Q i (q, deafBehind d es), rfl, ?_, by simp [hsz], hw, hown, hwg, fun k hk => ?_, ⟨?_, ?_, ?_, fun k hk => ?_, ?_⟩, rfl⟩
      · have e1 := sumTo_upd Q (q, deafBehind d es) (fun x : Nat × Nat => x.1) hi
        rw [hQ] at e1
        refine Prod.Lex.right _ (Prod.Lex.right _ (Prod.Lex.right _ ?_))
        show (sumTo c.h fun k => (upd Q i (q, deafBehind d es) k).1) < sumTo c.h fun k => (Q k).1
        simp only at e1
        omega
      · rw [get_map_set _ _ _ _ (by omega), ha, Option.map_some]
        unfold Go.Conc.woken
        split
        · rw [again_running _ (.inl hst)]
        · rfl
      · by_cases e : k = i
        · subst e
          exact ⟨g', get_map_set_same _ _ _ (by omega), by rw [upd_same]; exact hs'⟩
        · obtain ⟨x, hx, hsx⟩ := hq k hk
          exact ⟨x, by rw [get_map_set _ _ _ _ (by omega), hx, Option.map_some, woken_quitsD hsx], by rw [upd_ne Q _ e]; exact hsx⟩
      · exact T.ct.appW apart_none (k := i + 1) (by omega) (by omega) (okW_none fun e he => by
          obtain ⟨jx, hj⟩ := Array.mem_iff_getElem?.1 he
          rcases hno jx e hj with h | _
          · exact h
          · rcases bk_of_mute (Wg := c.Wg) (hmute e he) with h1 | h1 | ⟨a, wr, rfl, _⟩
            · rw [ofEvent_loc_mark h1]; rfl
            · rw [ofEvent_loc_mark h1]; rfl
            · have := hmute _ he; simp [Event.mute] at this)
      · exact T.norel.app (norel_of_Bk hbk |> norel_of)
      · rw [Deaf_other t (g' := i + 1) (by omega) _ g_of_ofEvents, T.deaf0]
      · by_cases e : k = i
        · subst e; rw [Deaf_own, hdk, upd_same]
        · rw [Deaf_other t (g' := i + 1) (by omega) _ g_of_ofEvents, T.deafW k hk, upd_ne Q _ e]
      · refine T.acq.app fun k r hk hr => ?_
        by_cases e' : k = i
        · subst e'; exact hr.book hdk _ _ hbk hno
        · exact hr.appOther g_of_ofEvents (by omega)
/-- At the tail: the second invariant holds. -/
theorem tail_from {X : Nat → WX} {r : Nat} {st sm : Int} (h1 : 1 ≤ c.h) (_ : gs[0]? = some a) (h : AtTail P c Anch Post a gs w t X r st sm) (O : c.Ok) :
    ∃ own rk Q, WayK P true c.Ko (fun _ => False) (AtEnd P Post) rk own a w ∧ (∀ b, own b → b < w.heap.size ∧ b ≠ c.Wg) ∧ (c.Wg < w.heap.size ∧ c.Ko w) ∧ gs.size = c.h + 1 ∧
      (∀ i, i < c.h → ∃ g, gs[i + 1]? = some g ∧ QuitsD P (Q i).1 (Q i).2 g) ∧ T2 c t Q := by
  obtain ⟨C, _, hf⟩ := h
  obtain ⟨hq, rfl, rfl⟩ := C.mode.fin_inv trivial
  have hlib : ∀ i, i < c.h → ∃ g, gs[i + 1]? = some g ∧ (X i).ph = .lib ∧ QuitsD P (X i).d.fuel (X i).d.deaf g := fun i hi => by
    obtain ⟨g, hg, hs⟩ := C.wk i hi
    have hst : (X i).d.stage = 1 := hq i hi
    refine ⟨g, hg, ?_⟩
    generalize X i = x at hs hst
    cases hs with
    | idle h => cases hst
    | busy _ _ h => cases hst
    | over h => cases hst
    | lib h =>
      refine ⟨rfl, ?_⟩
      have hst' : _ = 1 := hst
      simp only at hst'
      subst hst'
      cases h with | quit h => exact h
  have hr : r = c.n := by
    obtain ⟨_, _, hp, _⟩ := hlib 0 (by omega)
    exact C.done 0 (by omega) (.inr hp)
  subst hr
  obtain ⟨cs, ho1, ho2, ho3⟩ := C.wc.ob
  obtain ⟨own, hown, rk, hrk⟩ := hf ⟨C.wc.base, cs, ho1, ho2, fun b hb => ho3 b hb fun i hi he => by
    obtain ⟨_, _, hp, _⟩ := hlib i hi
    rw [hp] at he; cases he⟩
  have hct := C.tc.ct
  refine ⟨own, rk, fun i => ((X i).d.fuel, (X i).d.deaf), hrk, hown, ⟨by have := O.wg; have := C.wc.hB; omega, C.wc.base.2.1, C.wc.base.2.2⟩, C.size, fun i hi => ?_, ⟨⟨hct.quiet, fun _ _ _ _ h => h.elim, fun _ _ _ _ h => h.elim, fun l hs _ => ?_, fun l hs _ => ?_, hct.nr, hct.gs⟩, C.tc.norel, C.tc.deaf0, C.tc.deafW, C.acq rfl⟩⟩
  · obtain ⟨g, hg, _, hs⟩ := hlib i hi
    exact ⟨g, hg, hs⟩
  · exact hct.free l hs fun k _ _ => ⟨fun h => absurd h.1 (by decide), fun h => absurd h.1 (by decide)⟩
  · exact hct.mine l hs fun k _ _ h => absurd h.1 (by decide)
def Inv (P : Program) (c : Cfg) (Anch : (Nat → Prop) → Goroutine → World → Prop) (AnchW : Goroutine → World → Prop) (Post : Value → World → Prop) (μ : Mu) (m : Machine) (t : Trace) : Prop := Inv1 P c Anch AnchW Post μ m t ∨ Inv2 P c Post μ m t
theorem co_at {X : Nat → WX} {j r d0 : Nat} {tag : CTag} {st sm : Int} (C : Co P c Anch j gs w t X r d0 tag st sm) (d : Nat) : Co P c Anch j gs (w.at d) t X r d0 tag st sm :=
  ⟨C.jh, C.size, fun i hi => let ⟨g, hg, hs⟩ := C.wk i hi; ⟨g, hg, hs.rely (Rly.at _ w d) ⟨id, Nat.le_refl _⟩⟩, C.wc.at d, C.tc, C.wg, C.mode, C.acq, C.out, C.done⟩
theorem crew_step (O : c.Ok) (h1 : 1 ≤ c.h) (hA : ∀ own g w, Anch own g w → AtRecv P c Anch own g w) (hAr : ∀ g w, AnchW g w → g.status = .running) (hAn : ∀ g w, AnchW g w → Go1 P true (RM c.ty c.Wg) (DM c.Wg) (MW1 P c.ty c.Wg AnchW (TailP P c Post)) w g) :
    ∀ μ m t, Inv P c Anch AnchW Post μ m t →
    (∃ o w ops, stepT P m = (.ended o w, ops) ∧ Good P Post m o w (t ++ ops)) ∨ (∃ m' ops μ', stepT P m = (.next m', ops) ∧ Mlt μ' μ ∧ Inv P c Anch AnchW Post μ' m' (t ++ ops)) := by
  rintro μ m t (⟨gs, w, sl, j, X, r, tag, f0, d0, a, st, sm, rfl, ha, hcs, C, rfl⟩ | ⟨gs, w, sl, a, own, rk, Q, rfl, ha, hsz, hw, hown, hwg, hq, T, rfl⟩)
  · have some1 : ∃ (i : Nat) (g : Goroutine), gs[i]? = some g ∧ g.status = .running := by
      rcases hcs.status hAr with ⟨hs, _⟩ | ⟨_, _, rfl⟩
      · exact ⟨0, a, ha, hs⟩
      · cases C.mode with
        | opn h1 _ _ => exact h1.elim
        | reg _ _ h3 =>
          obtain ⟨i, hi, h5⟩ := exists_counted h3
          obtain ⟨g, hg, hs⟩ := C.wk i hi
          exact ⟨i + 1, g, hg, hs.running hA C.wc.base (by simp only [ds] at h5; omega)⟩
        | last L _ h2 h3 _ =>
          obtain ⟨g, hg, hs⟩ := C.wk L h2
          exact ⟨L + 1, g, hg, hs.running hA C.wc.base (by simp only [ds] at h3; omega)⟩
        | fin h1 _ => exact h1.elim
    have awk : ∀ g ∈ gs, awake g := by
      intro g hg tm
      obtain ⟨i, hi⟩ := Array.mem_iff_getElem?.1 hg
      cases i with
      | zero =>
        rw [ha] at hi; cases hi
        rcases hcs.status hAr with ⟨hs, _⟩ | ⟨hs, _⟩ <;> rw [hs] <;> simp
      | succ i =>
        have hlt : i < j := by have := (Array.getElem?_eq_some_iff.1 hi).1; rw [C.size] at this; omega
        obtain ⟨g', hg', hs⟩ := C.wk i hlt
        rw [hi] at hg'; cases hg'
        rcases hs.status hA C.wc.base with h | h <;> rw [h] <;> simp
    obtain ⟨i, g, d, sl', hg, hrun, hstep⟩ := crowd_pick (P := P) (w := w) (sl := sl) awk some1
    rw [hstep]
    have C' := co_at C d
    have hcs' : CS P c Anch AnchW Post tag j f0 d0 a (w.at d) := hcs.rely ⟨id, Nat.le_refl _⟩
    cases i with
    | zero =>
      rw [ha] at hg; cases hg
      rcases start_any (sl := sl') O hA hAn ha hcs' C' hrun with h | ⟨m₁, ops, μ', e1, e2, e3⟩
      · obtain ⟨own, rk, Q, hw, hown, hwg, hsz, hq, T⟩ := tail_from h1 ha h O
        rcases tail_main (sl := sl') ha hsz hw hown hwg hq T with ⟨o, w₁, ops, e1, e2⟩ | ⟨m₁, ops, μ', e1, e0, _, e3⟩
        · exact .inl ⟨o, w₁, ops, e1, e2 w sl⟩
        · refine .inr ⟨m₁, ops, μ', e1, ?_, .inr e3⟩
          obtain ⟨μ1, μ2⟩ := μ'
          exact Prod.Lex.left _ _ (by have e0' : μ1 = 0 := e0; omega)
      · exact .inr ⟨m₁, ops, μ', e1, e2, .inl e3⟩
    | succ i =>
      have hi : i < j := by have := (Array.getElem?_eq_some_iff.1 hg).1; rw [C.size] at this; omega
      obtain ⟨m₁, ops, μ', e1, e2, e3⟩ := hand_any (sl := sl') O hA hAr ha hcs' C' hi hg hrun
      exact .inr ⟨m₁, ops, μ', e1, e2, .inl e3⟩
  · have hst : a.status = .running := hw.running hwg.2 fun h => h.1
    have awk : ∀ g ∈ gs, awake g := by
      intro g hg tm
      obtain ⟨i, hi⟩ := Array.mem_iff_getElem?.1 hg
      cases i with
      | zero => rw [ha] at hi; cases hi; rw [hst]; simp
      | succ i =>
        have hlt : i < c.h := by have := (Array.getElem?_eq_some_iff.1 hi).1; omega
        obtain ⟨g', hg', hs⟩ := hq i hlt
        rw [hi] at hg'; cases hg'
        rcases hs.status with h | h <;> rw [h] <;> simp
    obtain ⟨i, g, d, sl', hg, hrun, hstep⟩ := crowd_pick (P := P) (w := w) (sl := sl) awk ⟨0, a, ha, hst⟩
    rw [hstep]
    have hw' := hw.rely (Rly.at own w d)
    cases i with
    | zero =>
      rw [ha] at hg; cases hg
      rcases tail_main (w := w.at d) (sl := sl') ha hsz hw' hown hwg hq T with ⟨o, w₁, ops, e1, e2⟩ | ⟨m₁, ops, μ', e1, _, e2, e3⟩
      · exact .inl ⟨o, w₁, ops, e1, e2 w sl⟩
      · exact .inr ⟨m₁, ops, μ', e1, e2, .inr e3⟩
    | succ i =>
      have hi : i < c.h := by have := (Array.getElem?_eq_some_iff.1 hg).1; omega
      obtain ⟨m₁, ops, μ', e1, e2, e3⟩ := tail_hand (w := w.at d) (sl := sl') ha hsz hw' hown hwg hq T hi hg hrun
      exact .inr ⟨m₁, ops, μ', e1, e2, .inr e3⟩
/-- From the moment at which the first hand is started to the end, on every tape. -/
theorem crew_runs (O : c.Ok) (h1 : 1 ≤ c.h) (hA : ∀ own g w, Anch own g w → AtRecv P c Anch own g w) (hAr : ∀ g w, AnchW g w → g.status = .running) (hAn : ∀ g w, AnchW g w → Go1 P true (RM c.ty c.Wg) (DM c.Wg) (MW1 P c.ty c.Wg AnchW (TailP P c Post)) w g)
    {m : Machine} {μ : Mu} {t : Trace} (h : Inv P c Anch AnchW Post μ m t) :
    ∃ N last o w t', runNT P (N + 1) m t = (.ended o w, t') ∧ runN P N m = .next last ∧ step P last = .ended o w ∧ Good P Post last o w t' :=
  run_of_inv Mlt_wf (Inv P c Anch AnchW Post) (Good P Post) (crew_step O h1 hA hAr hAn) μ m t h
end
end Go.Proofs.Ytebgcemglicjiaa
