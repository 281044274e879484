/- The trace of hands that come to own new places, and of the join that gives all to the starter. No condition of ours. -/
import Derived.Test.YtebgcemglicjiaaCwS
import Derived.Conc.CrowdRun
import Derived.Conc.CrowdComm
/- A goroutine's way beside others where some blocks stand and are read by all: its judgement, its rank. No condition of ours. -/
namespace Go.Proofs.Ytebgcemglicjiaa
open Go.Conc
section
variable (P : Program) (main : Bool) (K : World → Prop) (Rd : Nat → Prop) (Stop : (Nat → Prop) → Goroutine → World → Prop)
/-- An access to one's own, a mark that tells nothing, or a reading of what stands. -/
def MineK (Rd own : Nat → Prop) (e : Event) : Prop := Mine own e ∨ ∃ a : Addr, e = ⟨.cell a, false, false⟩ ∧ Rd a.block
structure ActK (own own' : Nat → Prop) (w w₁ : World) (es : Array Event) : Prop where
  tape : w₁.tape = w.tape
  os : w₁.os = w.os
  output : w₁.output = w.output
  size : w.heap.size ≤ w₁.heap.size
  others : ∀ c, c < w.heap.size → ¬ own' c → w₁.heap[c]? = w.heap[c]?
  mine : ∀ c, w.heap.size ≤ c → c < w₁.heap.size → own' c
  new : ∀ c, own' c → own c ∨ (w.heap.size ≤ c ∧ c < w₁.heap.size)
  old : ∀ c, own c → own' c
  evs : ∀ e ∈ es, MineK Rd own' e
def OwnK (own : Nat → Prop) (g : Goroutine) (w₁ : World) (own' : Nat → Prop) (g' : Goroutine) (w' : World) : Prop :=
  ∃ es, stepG P main g w₁ = .go g' w' es ∧ g.status = .running ∧ ActK Rd own own' w₁ w' es
/-- On its way to a stop, with its rank. -/
def WayK : Tr → (Nat → Prop) → Goroutine → World → Prop
  | .leaf, own, g, w => ∀ w₁, Rly own w w₁ → K w₁ → Stop own g w₁
  | .node f, own, g, w => ∀ w₁, Rly own w w₁ → K w₁ → ∃ own' g' w', OwnK P main Rd own g w₁ own' g' w' ∧ WayK (f w₁) own' g' w'
def WK (own : Nat → Prop) (g : Goroutine) (w : World) : Prop := ∃ t, WayK P main K Rd Stop t own g w
end
section
variable {P : Program} {main : Bool} {K : World → Prop} {Rd : Nat → Prop} {Stop : (Nat → Prop) → Goroutine → World → Prop} {own : Nat → Prop} {g g' : Goroutine} {w w₁ : World}
theorem WayK.rely {t : Tr} (h : WayK P main K Rd Stop t own g w) (hr : Rly own w w₁) : WayK P main K Rd Stop t own g w₁ := by
  cases t with
  | leaf => exact fun w₂ h₂ hk => h w₂ (hr.trans h₂) hk
  | node f => exact fun w₂ h₂ hk => h w₂ (hr.trans h₂) hk
theorem WK.rely (h : WK P main K Rd Stop own g w) (hr : Rly own w w₁) : WK P main K Rd Stop own g w₁ := let ⟨t, ht⟩ := h; ⟨t, ht.rely hr⟩
theorem WK.stop (h : ∀ w₁, Rly own w w₁ → K w₁ → Stop own g w₁) : WK P main K Rd Stop own g w := ⟨.leaf, h⟩
theorem WK.step (h : ∀ w₁, Rly own w w₁ → K w₁ → ∃ own' g' w', OwnK P main Rd own g w₁ own' g' w' ∧ WK P main K Rd Stop own' g' w') : WK P main K Rd Stop own g w := by
  classical
  have hx : ∀ w₁, ∃ t, Rly own w w₁ → K w₁ → ∃ own' g' w', OwnK P main Rd own g w₁ own' g' w' ∧ WayK P main K Rd Stop t own' g' w' := fun w₁ => by
    by_cases hr : Rly own w w₁ ∧ K w₁
    · obtain ⟨a, b, c, d, t, ht⟩ := h w₁ hr.1 hr.2
      exact ⟨t, fun _ _ => ⟨a, b, c, d, ht⟩⟩
    · exact ⟨.leaf, fun e f => absurd ⟨e, f⟩ hr⟩
  exact ⟨.node fun w₁ => Classical.choose (hx w₁), fun w₁ hr hk => Classical.choose_spec (hx w₁) hr hk⟩
theorem ActK.still (own : Nat → Prop) (w : World) : ActK Rd own own w w #[] :=
  ⟨rfl, rfl, rfl, Nat.le_refl _, fun _ _ _ => rfl, fun c h1 h2 => absurd h1 (by omega), fun _ h => .inl h, fun _ h => h, fun e he => by simp at he⟩
theorem WK.silent (hs : g.status = .running) (h : ∀ w₁, Rly own w w₁ → K w₁ → stepG P main g w₁ = .go g' w₁ #[]) (k : WK P main K Rd Stop own g' w) : WK P main K Rd Stop own g w :=
  .step fun w₁ r hk => ⟨own, g', w₁, ⟨#[], h w₁ r hk, hs, ActK.still own w₁⟩, k.rely r⟩
theorem sil_wk (own : Nat → Prop) (w : World) : Sil P main (fun w₁ => Rly own w w₁ ∧ K w₁) (fun b a k cs => WK P main K Rd Stop own (G (b.at a k) cs) w) (fun b a k cs => WK P main K Rd Stop own (G { b.at a k with mode := .returning } cs) w) :=
  sil_of (X := fun g => WK P main K Rd Stop own g w) fun _ _ hs h k => WK.silent hs (fun w₁ r hk => h w₁ ⟨r, hk⟩) k
/-- From a way on one's own to a way beside what stands: what one had before stands meanwhile; behind its stop it goes on. -/
theorem WK.of_way {Stop' : (Nat → Prop) → Goroutine → World → Prop} {own0 : Nat → Prop} (h : Way P main Stop' own g w) (h0 : ∀ c, own0 c → c < w.heap.size ∧ ¬ own c)
    (hs : ∀ own' g' w', Stop' own' g' w' → (∀ c, own0 c → w'.heap[c]? = w.heap[c]?) → w.heap.size ≤ w'.heap.size → (∀ c, own' c → own c ∨ (w.heap.size ≤ c ∧ c < w'.heap.size)) → WK P main K Rd Stop (fun c => own0 c ∨ own' c) g' w') :
    WK P main K Rd Stop (fun c => own0 c ∨ own c) g w := by
  induction h with
  | stop h => exact hs _ _ _ (h _ (Rly.refl _ _)) (fun _ _ => rfl) (Nat.le_refl _) fun _ h => .inl h
  | @step own g w nx h1 h2 ih =>
    refine .step fun w₁ r hk => ?_
    have r' : Rly own w w₁ := ⟨fun c hc => r.kept c (.inr hc), r.size⟩
    obtain ⟨_, es, he, hrun, A⟩ := h1 w₁ r'
    refine ⟨fun c => own0 c ∨ (nx w₁).1 c, (nx w₁).2.1, (nx w₁).2.2, ⟨es, he, hrun, ⟨A.tape, A.os, A.output, A.size, fun c h1 h2 => A.others c h1 fun h => h2 (.inr h), fun c h1 h2 => .inr (A.mine c h1 h2), fun c h => ?_, fun c h => ?_, fun e h => ?_⟩⟩, ih w₁ r' (fun c hc => ?_) fun own' g' w' hst hb hsz hnew => ?_⟩
    · rcases h with h | h
      · exact .inl (.inl h)
      · rcases A.new c h with h | h
        · exact .inl (.inr h)
        · exact .inr h
    · rcases h with h | h
      · exact .inl h
      · exact .inr (A.old c h)
    · rcases A.evs e h with ⟨a, x, rfl, hm⟩ | ⟨r, rfl, hm⟩ | hm
      · exact .inl (.inl ⟨a, x, rfl, .inr hm⟩)
      · exact .inl (.inr (.inl ⟨r, rfl, .inr hm⟩))
      · exact .inl (.inr (.inr hm))
    · have hc' := (h0 c hc).1
      refine ⟨by have := r.size; have := A.size; omega, fun h => ?_⟩
      rcases A.new c h with h | h
      · exact (h0 c hc).2 h
      · have := r.size; omega
    · refine hs own' g' w' hst (fun c hc => ?_) (by have := r.size; have := A.size; omega) fun c hc => ?_
      · rw [hb c hc, A.others c (by have := (h0 c hc).1; have := r.size; omega) fun h => ?_, r.kept c (.inl hc)]
        rcases A.new c h with h | h
        · exact (h0 c hc).2 h
        · have := (h0 c hc).1; have := r.size; omega
      · rcases hnew c hc with h | h
        · rcases A.new c h with h | h
          · exact .inl h
          · exact .inr ⟨by have := r.size; omega, by omega⟩
        · exact .inr ⟨by have := r.size; have := A.size; omega, h.2⟩
end
end Go.Proofs.Ytebgcemglicjiaa

namespace Go.Proofs.Ytebgcemglicjiaa
open Go.Conc Go.ConcN
open Go.ConcR (KK WgAt stA smA rd wr mk DC0 Bk g_of_ofEvents)
/-- New places of a hand's: nobody has touched them. -/
theorem ct_grow {Sh : Loc → Prop} {Own Own' Rd : Nat → Loc → Prop} {t : Trace} {j : Nat} (h : CT Sh Own Rd t j) (old : ∀ k l, Own k l → Own' k l) (new : ∀ k l, Own' k l → Own k l ∨ ∀ i a, touchAt t i = some a → a.loc ≠ l) : CT Sh Own' Rd t j where
  quiet := h.quiet
  own k k1 kj l hl := by
    rcases new k l hl with hl | hl
    · exact h.own k k1 kj l hl
    · exact fun i a ha e => absurd e (hl i a ha)
  rd := h.rd
  free l hs hl := h.free l hs fun k k1 kj => ⟨fun ho => (hl k k1 kj).1 (old k l ho), (hl k k1 kj).2⟩
  mine l hs hl := h.mine l hs fun k k1 kj ho => hl k k1 kj (old k l ho)
  nr := h.nr
  gs := h.gs
/-- Behind the join all is the starter's. -/
theorem ct_join {Sh : Loc → Prop} {Own Rd : Nat → Loc → Prop} {t : Trace} {j Wg : Nat} (h : CT Sh Own Rd t j) (ha : AcqAll Wg j t) (hn : NoRelease (stA Wg) t)
    (np : ∀ (i : Nat) (op : MemOp) (x : Touch), t[i]? = some op → op.act.touch? = some x → ¬ Sh x.loc → op.g ≠ 0 → x.kind ≠ .atomic ∧ x.loc.isMemory = true) : CT Sh (fun _ _ => False) (fun _ _ => False) t j := by
  obtain ⟨q, hq, hg, hh, all⟩ := ha
  have key : ∀ l, ¬ Sh l → Perm t 0 l := by
    intro l hl i a hia e
    obtain ⟨z, hz, hza⟩ := touch_of hia
    by_cases h0 : z.g = 0
    · have := knows_own hz; rwa [h0] at this
    · obtain ⟨r, hr, hrq⟩ := all (z.g - 1) (by have := h.gs i z hz; omega)
      rw [show z.g - 1 + 1 = z.g by omega] at hr
      have hgi : t.g? i = some z.g := by simp [Trace.g?, hz]
      have hle : i ≤ r := Nat.le_of_not_lt fun hlt => hr.after i hlt hgi ⟨a, by simpa [touchAt] using hia, (np i z a hz hza (e ▸ hl) h0).2, .inl (np i z a hz hza (e ▸ hl) h0).1⟩
      have edge : HappensBefore t r q := .single (.inr ⟨.marked hrq (.inr hr.act) hq (fun k _ _ => hn k), hr.heard, hh⟩)
      obtain ⟨zq, hzq, hzg⟩ := Option.map_eq_some_iff.1 hg
      refine ⟨q, zq, hzq, hzg, .inr ?_⟩
      rcases Nat.lt_or_ge i r with hlt | hge
      · exact .trans (.single (.inl ⟨hlt, z.g, hgi, hr.g⟩)) edge
      · obtain rfl : i = r := by omega
        exact edge
  exact ⟨h.quiet, fun _ _ _ _ h => h.elim, fun _ _ _ _ h => h.elim, fun l hs _ => key l hs, fun l hs _ => .of (key l hs), h.nr, h.gs⟩
theorem apart_none {Sh : Loc → Prop} : Apart Sh (fun _ _ => False) (fun _ _ => False) := ⟨fun _ _ _ h => h.elim, fun _ _ _ h => h.elim, fun _ _ h => h.elim, fun _ _ h => h.elim⟩
/-- What an entry of one's own touches. -/
theorem Mine.touch {own : Nat → Prop} {e : Event} (h : Mine own e) : ∀ x, (MemAct.ofEvent e).touch? = some x → x.kind = .plain ∧ ((∃ a : Addr, x.loc = .cell a ∧ own a.block) ∨ ∃ r, x.loc = .obj r ∧ own r) := by
  intro x hx
  rcases h with ⟨a, wr, rfl, ha⟩ | ⟨r, rfl, hr⟩ | ⟨m, rfl, hm⟩
  · simp only [MemAct.ofEvent, MemAct.touch?, Option.some.injEq] at hx
    subst hx
    exact ⟨rfl, .inl ⟨a, rfl, ha⟩⟩
  · simp only [MemAct.ofEvent, MemAct.touch?, Option.some.injEq] at hx
    subst hx
    exact ⟨rfl, .inr ⟨r, rfl, hr⟩⟩
  · cases m <;> simp [Meek] at hm <;> simp [MemAct.ofEvent, MemAct.touch?] at hx
theorem Mine.marks {own : Nat → Prop} {e : Event} (h : Mine own e) : e.loc ≠ .mark .disable ∧ e.loc ≠ .mark .enable ∧ ∀ a, e.loc ≠ .mark (.release a) := by
  rcases h with ⟨a, wr, rfl, ha⟩ | ⟨r, rfl, hr⟩ | ⟨m, rfl, hm⟩
  · simp
  · simp
  · cases m <;> simp [Meek] at hm <;> simp
theorem MineK.touch {Rd own : Nat → Prop} {e : Event} (h : MineK Rd own e) : ∀ x, (MemAct.ofEvent e).touch? = some x → x.kind = .plain ∧ ((∃ a : Addr, x.loc = .cell a ∧ (own a.block ∨ (Rd a.block ∧ x.write = false))) ∨ ∃ r, x.loc = .obj r ∧ own r) := by
  rcases h with h | ⟨a, rfl, ha⟩
  · intro x hx
    obtain ⟨h1, h2⟩ := h.touch x hx
    refine ⟨h1, ?_⟩
    rcases h2 with ⟨a, h2, h3⟩ | h2
    · exact .inl ⟨a, h2, .inl h3⟩
    · exact .inr h2
  · intro x hx
    simp only [MemAct.ofEvent, MemAct.touch?, Option.some.injEq] at hx
    subst hx
    exact ⟨rfl, .inl ⟨a, rfl, .inr ⟨ha, rfl⟩⟩⟩
theorem MineK.marks {Rd own : Nat → Prop} {e : Event} (h : MineK Rd own e) : e.loc ≠ .mark .disable ∧ e.loc ≠ .mark .enable ∧ ∀ a, e.loc ≠ .mark (.release a) := by
  rcases h with h | ⟨a, rfl, ha⟩
  · exact h.marks
  · simp
theorem mem_ops {g : Nat} {fn : FuncId} {pos : String} {es : Array Event} {op : MemOp} (h : op ∈ MemOp.ofEvents g fn pos es) : op.g = g ∧ ∃ e ∈ es, op.act = .ofEvent e := by
  rw [ofEvents_eq] at h
  obtain ⟨e, he, rfl⟩ := Array.mem_map.1 h
  exact ⟨rfl, e, he, rfl⟩
end Go.Proofs.Ytebgcemglicjiaa
