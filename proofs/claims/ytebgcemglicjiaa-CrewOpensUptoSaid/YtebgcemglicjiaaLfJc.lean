/- Ranks for goroutines on their way: the order in which many of them come to an end. No condition of ours. -/
import Derived.Test.YtebgcemglicjiaaLfJb
import Derived.Conc.WalkWords
/- Frames in the two runs, and the moves of control. No condition of ours. -/
namespace Go.Proofs.Ytebgcemglicjiaa
open Go.Conc
/-- Code whose steps are the same in the two runs. -/
def okCode (P : Program) (F : Nat → Bool) : Code → Bool
  | .region _ ops _ => ops.all fun o => okOp P F o.op
  | .seq a b => okCode P F a && okCode P F b
  | .cond c a b => okX F c && okCode P F a && okCode P F b
  | .block _ c | .loop c | .scope c => okCode P F c
  | .rangeFunc .. | .goto _ => false
  | _ => true
def okItem (P : Program) (F : Nat → Bool) : Item → Bool
  | .code c | .inLoop c | .inScope c => okCode P F c
  | .inBlock _ => true
  | .inRegion ops _ => ops.all fun o => okOp P F o.op
  | _ => false
def okRes : ResultVar → Bool
  | .tmp _ => true
  | .cell _ _ => true
/-- Every function with a body is such code. -/
def okBodies (P : Program) (F : Nat → Bool) : Prop := ∀ f, F f = true → ∃ fn, P.funcs[f]? = some fn ∧ ∀ c, fn.body = some c → okCode P F c = true
/-- A plain frame. -/
def fr0 (f : FuncId) (xs : Array Value) (todo : List Item) (mode : FrameMode) : Frame := { fn := f, tmps := xs, todo, defers := [], mode, kind := .normal }
inductive FR (P : Program) (F : Nat → Bool) (p : Ren P.globals.size) : Frame → Frame → Prop
  | mk {f : FuncId} {xs ys : Array Value} {todo : List Item} {mode : FrameMode} : F f = true → AR F p xs ys → todo.all (okItem P F) = true → (mode = .run ∨ mode = .returning) → FR P F p (fr0 f xs todo mode) (fr0 f ys todo mode)
inductive KR (P : Program) (F : Nat → Bool) (p : Ren P.globals.size) : List Frame → List Frame → Prop
  | nil : KR P F p [] []
  | cons {a b : Frame} {l l' : List Frame} : FR P F p a b → a.mode = .run → KR P F p l l' → KR P F p (a :: l) (b :: l')
section
variable {P : Program} {F : Nat → Bool} {p q : Ren P.globals.size}
theorem FR.le {a b : Frame} (h : FR P F p a b) (hl : p.le q) : FR P F q a b := by
  cases h with | mk h1 h2 h3 h4 => exact .mk h1 (h2.le hl) h3 h4
theorem KR.le {a b : List Frame} (h : KR P F p a b) (hl : p.le q) : KR P F q a b := by
  induction h with
  | nil => exact .nil
  | cons h1 h2 _ ih => exact .cons (h1.le hl) h2 ih
theorem seen_sub (fn : FuncId) (es : Array Event) : ∀ e ∈ seen P fn es, e ∈ es := by
  unfold seen
  dsimp only
  have key : ∀ (l : List Event) (q : Bool) (k : Array Event), (∀ e ∈ k, e ∈ es) → (∀ e ∈ l, e ∈ es) → ∀ e ∈ (l.foldl (fun (x : Bool × Array Event) e => match e.loc with
      | .mark (.extern f) => ((P.funcs[f]?).any (·.norace), x.2)
      | _ => (x.1, if x.1 && !e.sync then x.2 else x.2.push e)) (q, k)).2, e ∈ es := by
    intro l
    induction l with
    | nil => intro q k hk _; exact hk
    | cons a l ih =>
      intro q k hk hl
      rw [List.foldl_cons]
      split
      · exact ih _ _ hk fun e he => hl e (List.mem_cons_of_mem _ he)
      · refine ih _ _ ?_ fun e he => hl e (List.mem_cons_of_mem _ he)
        split
        · exact hk
        · intro e he
          rcases Array.mem_push.1 he with h | h
          · exact hk e h
          · exact h ▸ hl a (List.mem_cons_self)
  rw [← Array.foldl_toList]
  exact key es.toList _ #[] (fun e he => by simp at he) (fun e he => by simpa using he)
end
/-- A step after which the lone run does not return: it has ended, or it panics. -/
def Dead (F : Nat → Bool) (cs : List Frame) : GStep → Prop
  | .ended _ _ _ => True
  | .go g _ _ => ∃ f xs todo chain, F f = true ∧ g = G (fr0 f xs todo (.panicking chain)) cs
  | _ => False
/-- The next step in the two runs. -/
def StepAt (P : Program) (F : Nat → Bool) (main : Bool) (p : Ren P.globals.size) (fr : Frame) (cs : List Frame) (fr' : Frame) (cs' bot bot' : List Frame) (w w' : World) : Prop :=
  (∃ m q fr₁ cs₁ fr₁' cs₁' h₁ w₁' es, FR P F q fr₁ fr₁' ∧ KR P F q cs₁ cs₁' ∧ HR F q h₁ w₁'.heap ∧ Did p q w' w₁' es ∧ w₁'.drawn = w'.drawn + m ∧
    (∀ T, Tapes T w.drawn w' m → ∃ es0, stepG P true (G fr (cs ++ bot)) { w with tape := T } = .go (G fr₁ (cs₁ ++ bot)) { w with heap := h₁, tape := T, drawn := w.drawn + m } es0) ∧
    stepG P main (G fr' (cs' ++ bot')) w' = .go (G fr₁' (cs₁' ++ bot')) w₁' es) ∨
  (∃ m, ∀ T, Tapes T w.drawn w' m → Dead F (cs ++ bot) (stepG P true (G fr (cs ++ bot)) { w with tape := T }))
section
variable {P : Program} {F : Nat → Bool} {p : Ren P.globals.size} {main : Bool} {f : FuncId} {xs ys : Array Value} {todo todo' : List Item} {cs cs' bot bot' : List Frame} {w w' : World}
theorem StepAt.move (hf : F f = true) (ha : AR F p xs ys) (hk : KR P F p cs cs') (H : HR F p w.heap w'.heap) {mode : FrameMode} (hm : mode = .run ∨ mode = .returning) (ht : todo'.all (okItem P F) = true)
    (h1 : ∀ (w : World) (cs : List Frame), stepG P true (G (fr0 f xs todo .run) cs) w = .go (G (fr0 f xs todo' mode) cs) w) (h2 : ∀ (w : World) (cs : List Frame), stepG P main (G (fr0 f ys todo .run) cs) w = .go (G (fr0 f ys todo' mode) cs) w) :
    StepAt P F main p (fr0 f xs todo .run) cs (fr0 f ys todo .run) cs' bot bot' w w' :=
  .inl ⟨0, p, _, cs, _, cs', w.heap, w', #[], .mk hf ha ht hm, hk, H, Did.refl _ _, rfl, fun _ _ => ⟨#[], h1 _ _⟩, h2 _ _⟩
theorem exitTo_ok {id : Nat} : ∀ {k k' : List Item}, k.all (okItem P F) = true → exitTo id k = some k' → k'.all (okItem P F) = true := by
  intro k
  induction k with
  | nil => intro k' _ h; cases h
  | cons i k ih =>
    intro k' h e
    simp only [List.all_cons, Bool.and_eq_true] at h
    cases i with
    | inBlock id' =>
      unfold exitTo at e
      split at e
      · cases e; exact h.2
      · exact ih h.2 e
    | _ => exact ih h.2 e
theorem er_frame (ha : AR F p xs ys) (todo : List Item) (mode : FrameMode) : ER F p (fr0 f xs todo mode).eval (fr0 f ys todo mode).eval := by
  intro x hx
  cases x with
  | tmp t => exact ha.getD t VR.undef
  | const v => exact VR.plain hx
  | global g => cases hx
  | func g => exact .func hx rfl rfl (fun i h => absurd h (Nat.not_lt_zero _)) (fun i h => absurd h (Nat.not_lt_zero _))
theorem yielded_rel (ha : AR F p xs ys) (ops : Array Oper) : yielded ops xs = yielded ops ys := by
  funext j
  unfold yielded
  cases ((ops[j]?).bind (·.dst)) with
  | none => rfl
  | some d =>
    simp only [Option.bind]
    rcases ha.get? d with ⟨e1, e2⟩ | ⟨x, y, e1, e2, e3⟩
    · rw [e1, e2]
    · rw [e1, e2]; cases e3 <;> rfl
theorem apply_value {fr : Frame} {s : Sem Next} {w1 : World} {v : Value} {es : Array Event} (hk : fr.kind = .normal) (h : s.runT P w #[] = (.ok (.value v) w1, es)) : stepG.apply P true fr cs none s w = .go (G (fr.finish v) cs) w1 (seen P fr.fn es) := by
  have h1 : s.run P w = .ok (.value v) w1 := by rw [← Sem.runT_fst P s w #[], h]
  have h2 : s.events P w #[] = es := by unfold Sem.events; rw [h]
  simp [stepG.apply, h1, h2, G, hk, GStep.after]
theorem apply_skip {fr : Frame} {s : Sem Next} {w1 : World} {es : Array Event} (hk : fr.kind = .normal) (h : s.runT P w #[] = (.ok .skip w1, es)) : stepG.apply P true fr cs none s w = .go (G (fr.finish undef) cs) w1 (seen P fr.fn es) := by
  have h1 : s.run P w = .ok .skip w1 := by rw [← Sem.runT_fst P s w #[], h]
  have h2 : s.events P w #[] = es := by unfold Sem.events; rw [h]
  simp [stepG.apply, h1, h2, G, hk, GStep.after]
theorem apply_enter {fr : Frame} {s : Sem Next} {w1 : World} {g : FuncId} {args : Array Value} {es : Array Event} (hk : fr.kind = .normal) (ht : ∃ ops i r k, fr.todo = .inRegion ops (i :: r) :: k) (h : s.runT P w #[] = (.ok (.enter g args) w1, es)) :
    stepG.apply P true fr cs none s w = .go (G (Frame.enter P g args .normal) (fr :: cs)) w1 (seen P fr.fn es) := by
  have h1 : s.run P w = .ok (.enter g args) w1 := by rw [← Sem.runT_fst P s w #[], h]
  have h2 : s.events P w #[] = es := by unfold Sem.events; rw [h]
  obtain ⟨ops, i, r, k, ht⟩ := ht
  simp [stepG.apply, h1, h2, G, hk, GStep.after, ht]
theorem apply_bad {fr : Frame} {s : Sem Next} {hh : Halt} {wz : World} (hb : Bad hh) (hk : fr.kind = .normal) (h : s.run P w = .halt hh wz) :
    (∃ o w1 es, stepG.apply P true fr cs none s w = .ended o w1 es) ∨ ∃ chain w1 es, stepG.apply P true fr cs none s w = .go (G (fr.raise chain) cs) w1 es := by
  cases hh with
  | panic v => exact .inr ⟨_, _, _, by simp [stepG.apply, h, G, hk, GStep.after]; exact ⟨rfl, rfl, rfl⟩⟩
  | unsupported u => cases u with
    | initOrder g => cases hb
    | _ => exact .inl ⟨_, _, _, by simp [stepG.apply, h, hk, GStep.after]; exact ⟨rfl, rfl, rfl⟩⟩
  | stuck why => exact .inl ⟨_, _, _, by simp [stepG.apply, h, hk, GStep.after]; exact ⟨rfl, rfl, rfl⟩⟩
  | _ => cases hb
theorem finish_fr {ops : Array Oper} {i : Nat} {r : List Nat} {k : List Item} {v : Value} : (fr0 f xs (.inRegion ops (i :: r) :: k) .run).finish v = fr0 f (match (ops[i]?).bind (·.dst) with | some d => xs.setIfInBounds d v | none => xs) (.inRegion ops r :: k) .run := rfl
theorem finish_rel {ops : Array Oper} {i : Nat} {v v' : Value} (ha : AR F p xs ys) (hv : VR F p v v') : AR F p (match (ops[i]?).bind (·.dst) with | some d => xs.setIfInBounds d v | none => xs) (match (ops[i]?).bind (·.dst) with | some d => ys.setIfInBounds d v' | none => ys) := by
  cases (ops[i]?).bind (·.dst) with
  | none => exact ha
  | some d => exact ha.set d hv
theorem enter_fr (g : FuncId) (args : Array Value) : ∃ xs todo, Frame.enter P g args .normal = fr0 g xs todo .run := ⟨_, _, rfl⟩
/-- The moves of control. -/
theorem step_run (hF : okFuncs P F) (hB : okBodies P F) (hf : F f = true) (ha : AR F p xs ys) (hk : KR P F p cs cs') (H : HR F p w.heap w'.heap) (ht : todo.all (okItem P F) = true) :
    StepAt P F main p (fr0 f xs todo .run) cs (fr0 f ys todo .run) cs' bot bot' w w' := by
  have lost : (∀ (w : World) (cs : List Frame), ∃ o w1 es, stepG P true (G (fr0 f xs todo .run) cs) w = .ended o w1 es) → StepAt P F main p (fr0 f xs todo .run) cs (fr0 f ys todo .run) cs' bot bot' w w' := fun h => .inr ⟨0, fun T _ => by
    obtain ⟨o, w1, es, e⟩ := h { w with tape := T } (cs ++ bot)
    rw [e]; trivial⟩
  cases todo with
  | nil => exact .move (todo' := []) hf ha hk H (.inr rfl) rfl (fun w cs => by simp [G, stepG, stepG.exec, fr0]) (fun w cs => by simp [G, stepG, stepG.exec, fr0])
  | cons i k =>
    simp only [List.all_cons, Bool.and_eq_true] at ht
    cases i with
    | code c =>
      cases c with
      | skip => exact .move (todo' := k) hf ha hk H (.inl rfl) ht.2 (fun w cs => by simp [G, stepG, stepG.exec, fr0]) (fun w cs => by simp [G, stepG, stepG.exec, fr0])
      | label l => exact .move (todo' := k) hf ha hk H (.inl rfl) ht.2 (fun w cs => by simp [G, stepG, stepG.exec, fr0]) (fun w cs => by simp [G, stepG, stepG.exec, fr0])
      | ret => exact .move (todo' := .code .ret :: k) hf ha hk H (.inr rfl) (by simp only [List.all_cons, ht.2]; rfl) (fun w cs => by simp [G, stepG, stepG.exec, fr0]) (fun w cs => by simp [G, stepG, stepG.exec, fr0])
      | seq a b =>
        have h := ht.1
        simp only [okItem, okCode, Bool.and_eq_true] at h
        exact .move (todo' := .code a :: .code b :: k) hf ha hk H (.inl rfl) (by simp only [List.all_cons, okItem, h.1, h.2, ht.2]; rfl) (fun w cs => by simp [G, stepG, stepG.exec, fr0]) (fun w cs => by simp [G, stepG, stepG.exec, fr0])
      | block id c => exact .move (todo' := .code c :: .inBlock id :: k) hf ha hk H (.inl rfl) (by simp only [List.all_cons, okItem, ht.2]; exact by simpa [okItem, okCode] using ht.1) (fun w cs => by simp [G, stepG, stepG.exec, fr0]) (fun w cs => by simp [G, stepG, stepG.exec, fr0])
      | loop c => exact .move (todo' := .code c :: .inLoop c :: k) hf ha hk H (.inl rfl) (by simp only [List.all_cons, okItem, ht.2]; simpa [okItem, okCode] using ht.1) (fun w cs => by simp [G, stepG, stepG.exec, fr0]) (fun w cs => by simp [G, stepG, stepG.exec, fr0])
      | scope c => exact .move (todo' := .code c :: .inScope c :: k) hf ha hk H (.inl rfl) (by simp only [List.all_cons, okItem, ht.2]; simpa [okItem, okCode] using ht.1) (fun w cs => by simp [G, stepG, stepG.exec, fr0]) (fun w cs => by simp [G, stepG, stepG.exec, fr0])
      | exit id =>
        cases he : exitTo id k with
        | some k' => exact .move (todo' := k') hf ha hk H (.inl rfl) (exitTo_ok ht.2 he) (fun w cs => by simp [G, stepG, stepG.exec, fr0, he]) (fun w cs => by simp [G, stepG, stepG.exec, fr0, he])
        | none => exact lost (fun w cs => by simp only [G, stepG, stepG.exec, fr0, he]; exact ⟨_, _, _, rfl⟩)
      | cond c a b =>
        have h := ht.1
        simp only [okItem, okCode, Bool.and_eq_true] at h
        have hc := er_frame (f := f) ha (.code (.cond c a b) :: k) .run c h.1.1
        generalize hx : (fr0 f xs (.code (.cond c a b) :: k) .run).eval c = v at hc
        generalize hy : (fr0 f ys (.code (.cond c a b) :: k) .run).eval c = v' at hc
        simp only [fr0] at hx hy
        cases hc with
        | bool t =>
          refine .move (todo' := .code (if t then a else b) :: k) hf ha hk H (.inl rfl) ?_ (fun w cs => by simp [G, stepG, stepG.exec, fr0, hx]) (fun w cs => by simp [G, stepG, stepG.exec, fr0, hy])
          cases t
          · simp only [List.all_cons, okItem, ht.2]; simpa using h.2
          · simp only [List.all_cons, okItem, ht.2]; simpa using h.1.2
        | _ => exact lost (fun w cs => by simp only [G, stepG, stepG.exec, fr0, hx]; exact ⟨_, _, _, rfl⟩)
      | region id ops draw =>
        cases draw with
        | false => exact .move (todo' := .inRegion ops (List.range ops.size) :: k) hf ha hk H (.inl rfl) (by simp only [List.all_cons, ht.2]; simpa [okItem, okCode] using ht.1) (fun w cs => by simp [G, stepG, stepG.exec, fr0]) (fun w cs => by simp [G, stepG, stepG.exec, fr0])
        | true =>
          have hi : ∀ n, (Item.inRegion ops n :: k).all (okItem P F) = true := fun n => by simp only [List.all_cons, ht.2]; simpa [okItem, okCode] using ht.1
          refine .inl ⟨1, p, fr0 f xs (.inRegion ops (Region.schedule (P.follows .mixedOrders) ops (w'.tape w'.drawn (.order f id))) :: k) .run, cs, fr0 f ys (.inRegion ops (Region.schedule (P.follows .mixedOrders) ops (w'.tape w'.drawn (.order f id))) :: k) .run, cs', w.heap, { w' with drawn := w'.drawn + 1 }, #[], .mk hf ha (hi _) (.inl rfl), hk, H, Did.draw, rfl, fun T hT => ⟨#[], ?_⟩, ?_⟩
          · have e := hT 0 (by omega) (.order f id)
            simp only [Nat.add_zero] at e
            simp [G, stepG, stepG.exec, fr0, choose, Sem.run, Question.forced, Question.cut, e]
          · simp [G, stepG, stepG.exec, fr0, choose, Sem.run, Question.forced, Question.cut]
      | refuse why => exact lost (fun w cs => ⟨_, _, _, rfl⟩)
      | goto l => cases ht.1
      | rangeFunc f ps a b => cases ht.1
    | inBlock id => exact .move (todo' := k) hf ha hk H (.inl rfl) ht.2 (fun w cs => by simp [G, stepG, stepG.exec, fr0]) (fun w cs => by simp [G, stepG, stepG.exec, fr0])
    | inScope c => exact .move (todo' := k) hf ha hk H (.inl rfl) ht.2 (fun w cs => by simp [G, stepG, stepG.exec, fr0]) (fun w cs => by simp [G, stepG, stepG.exec, fr0])
    | inLoop c => exact .move (todo' := .code c :: .inLoop c :: k) hf ha hk H (.inl rfl) (by simp only [List.all_cons, okItem, ht.2]; simpa [okItem] using ht.1) (fun w cs => by simp [G, stepG, stepG.exec, fr0]) (fun w cs => by simp [G, stepG, stepG.exec, fr0])
    | inRegion ops todo =>
      have hops : (ops.all fun o => okOp P F o.op) = true := ht.1
      have hi : ∀ n, (Item.inRegion ops n :: k).all (okItem P F) = true := fun n => by simp only [List.all_cons, ht.2]; simpa [okItem] using hops
      cases todo with
      | nil => exact .move (todo' := k) hf ha hk H (.inl rfl) ht.2 (fun w cs => by simp [G, stepG, stepG.exec, fr0]) (fun w cs => by simp [G, stepG, stepG.exec, fr0])
      | cons i r =>
        cases hw : ((ops[i]?).map (Region.wanted · (yielded ops xs))).getD false with
        | false =>
          have hw' : ((ops[i]?).map (Region.wanted · (yielded ops ys))).getD false = false := by rw [← yielded_rel ha]; exact hw
          refine .inl ⟨0, p, _, cs, _, cs', w.heap, w', #[], .mk (todo := .inRegion ops r :: k) (mode := .run) hf (finish_rel (ops := ops) (i := i) ha VR.undef) (hi r) (.inl rfl), hk, H, Did.refl _ _, rfl, fun T _ => ⟨#[], ?_⟩, ?_⟩
          · rw [← finish_fr]; simp [G, stepG, stepG.exec, fr0, hw]
          · rw [← finish_fr]; simp [G, stepG, stepG.exec, fr0, hw']
        | true =>
          have hw' : ((ops[i]?).map (Region.wanted · (yielded ops ys))).getD false = true := by rw [← yielded_rel ha]; exact hw
          cases ho : ops[i]? with
          | none => rw [ho] at hw; cases hw
          | some o =>
            have hok : okOp P F o.op = true := by
              rw [Array.all_eq_true] at hops
              obtain ⟨hlt, rfl⟩ := Array.getElem?_eq_some_iff.1 ho
              exact hops i hlt
            have st : ∀ (m : Bool) (zs : Array Value) (cs : List Frame) (w : World), ((ops[i]?).map (Region.wanted · (yielded ops zs))).getD false = true → stepG P m (G (fr0 f zs (.inRegion ops (i :: r) :: k) .run) cs) w = stepG.apply P true (fr0 f zs (.inRegion ops (i :: r) :: k) .run) cs none (execOp (fr0 f zs (.inRegion ops (i :: r) :: k) .run).eval o) w := by
              intro m zs cs w hz
              simp [G, stepG, stepG.exec, stepG.oper, Frame.oper?, fr0, ho] at hz ⊢
              simp [hz]
            rcases (sr_execOp hF hok (er_frame (f := f) ha (.inRegion ops (i :: r) :: k) .run)).twin w w' H with ⟨m, a, b, q, h₁, w₁', es, hab, hH, hD, hd, hl, hr⟩ | ⟨m, hbad⟩
            · refine .inl ?_
              have hr0 := hr #[]
              have hD2 : Did p q w' w₁' (seen P f (#[] ++ es)) := { hD with evs := fun e he => hD.evs e (by have := seen_sub (P := P) f (#[] ++ es) e he; simpa using this) }
              cases hab with
              | value hv =>
                refine ⟨m, q, _, cs, _, cs', h₁, w₁', seen P f (#[] ++ es), .mk (todo := .inRegion ops r :: k) (mode := .run) hf (finish_rel (ops := ops) (i := i) (ha.le hD.le) hv) (hi r) (.inl rfl), hk.le hD.le, hH, hD2, hd, fun T hT => ?_, ?_⟩
                · rw [st true xs _ _ hw]
                  have e := hl T hT
                  rw [← Sem.runT_fst P _ _ #[]] at e
                  exact ⟨_, apply_value rfl (Prod.ext e rfl)⟩
                · rw [st main ys _ _ hw']
                  exact apply_value rfl hr0
              | skip =>
                refine ⟨m, q, _, cs, _, cs', h₁, w₁', seen P f (#[] ++ es), .mk (todo := .inRegion ops r :: k) (mode := .run) hf (finish_rel (ops := ops) (i := i) (ha.le hD.le) VR.undef) (hi r) (.inl rfl), hk.le hD.le, hH, hD2, hd, fun T hT => ?_, ?_⟩
                · rw [st true xs _ _ hw]
                  have e := hl T hT
                  rw [← Sem.runT_fst P _ _ #[]] at e
                  exact ⟨_, apply_skip rfl (Prod.ext e rfl)⟩
                · rw [st main ys _ _ hw']
                  exact apply_skip rfl hr0
              | @enter g as bs hg hab =>
                obtain ⟨fn, hfn, hbody⟩ := hB g hg
                have hfr : FR P F q (Frame.enter P g as .normal) (Frame.enter P g bs .normal) := by
                  refine .mk hg ?_ ?_ (.inl rfl)
                  · rw [hab.1]; exact hab.append (AR.replicate _ VR.undef)
                  · simp only [hfn, Option.bind]
                    cases hb : fn.body with
                    | none => rfl
                    | some c => simp only [Option.getD, List.all_cons, List.all_nil, Bool.and_true]; exact hbody c hb
                refine ⟨m, q, _, fr0 f xs (.inRegion ops (i :: r) :: k) .run :: cs, _, fr0 f ys (.inRegion ops (i :: r) :: k) .run :: cs', h₁, w₁', seen P f (#[] ++ es), hfr, .cons (.mk hf (ha.le hD.le) (hi _) (.inl rfl)) rfl (hk.le hD.le), hH, hD2, hd, fun T hT => ?_, ?_⟩
                · rw [st true xs _ _ hw]
                  have e := hl T hT
                  rw [← Sem.runT_fst P _ _ #[]] at e
                  exact ⟨_, apply_enter rfl ⟨_, _, _, _, rfl⟩ (Prod.ext e rfl)⟩
                · rw [st main ys _ _ hw']
                  exact apply_enter rfl ⟨_, _, _, _, rfl⟩ hr0
            · refine .inr ⟨m, fun T hT => ?_⟩
              obtain ⟨hh, wz, hb, e⟩ := hbad T hT
              rw [st true xs _ _ hw]
              rcases apply_bad (fr := fr0 f xs (.inRegion ops (i :: r) :: k) .run) (cs := cs ++ bot) hb rfl e with ⟨o, w1, es, e2⟩ | ⟨chain, w1, es, e2⟩
              · rw [e2]; trivial
              · rw [e2]; exact ⟨f, xs, _, chain, hf, rfl⟩
    | _ => cases ht.1
end
end Go.Proofs.Ytebgcemglicjiaa

/- Returns in the two runs; the step as a whole. No condition of ours. -/
namespace Go.Proofs.Ytebgcemglicjiaa
open Go.Conc
section
variable {P : Program} {F : Nat → Bool} {p : Ren P.globals.size} {main : Bool} {f : FuncId} {xs ys : Array Value} {todo todo' : List Item} {cs cs' bot bot' : List Frame} {w w' : World}
theorem sr_results (fn : Func) (ha : AR F p xs ys) : SR P F (VR F) p (results fn xs) (results fn ys) := by
  unfold results
  have key : ∀ (l : List ResultVar) {p : Ren P.globals.size}, AR F p xs ys → SR P F (fun q a b => AR F q a.toArray b.toArray) p
      (l.mapM fun | .tmp t => pure (xs.getD t undef) | .cell a t => do loadVar t (← asAddr (xs.getD a undef)) : Sem (List Value))
      (l.mapM fun | .tmp t => pure (ys.getD t undef) | .cell a t => do loadVar t (← asAddr (ys.getD a undef)) : Sem (List Value)) := by
    intro l
    induction l with
    | nil => intro p h; rw [List.mapM_nil, List.mapM_nil]; exact sr_pure AR.empty
    | cons x l ih =>
      intro p h
      rw [List.mapM_cons, List.mapM_cons]
      refine SR.bind (A := VR F) ?_ fun q hq a b hab => ?_
      · cases x with
        | tmp t => exact sr_pure (h.getD t VR.undef)
        | cell a t => exact (sr_asAddr (h.getD a VR.undef)).bind fun q hq u v hu => sr_loadVar t hu
      · refine (ih (h.le hq)).bind fun q2 hq2 a2 b2 hab2 => ?_
        refine sr_pure ?_
        have : AR F q2 #[a] #[b] := (AR.empty (F := F) (p := q2)).push (hab.le hq2)
        simpa using this.append hab2
  rw [Array.mapM_eq_mapM_toList, Array.mapM_eq_mapM_toList]
  refine SR.bind (A := AR F) ((key fn.results.toList ha).bind fun q _ a b hab => sr_pure hab) fun q _ a b hab => ?_
  refine sr_pure ?_
  by_cases h1 : a.size = 1
  · have h2 : b.size = 1 := hab.1 ▸ h1
    rw [dif_pos h1, dif_pos h2]
    exact hab.2 0 _ _
  · have h2 : ¬ b.size = 1 := hab.1 ▸ h1
    rw [dif_neg h1, dif_neg h2]
    exact .tuple hab.1 hab.2
theorem finish_FR {a b : Frame} (h : FR P F p a b) (hm : a.mode = .run) {v v' : Value} (hv : VR F p v v') : FR P F p (a.finish v) (b.finish v') ∧ (a.finish v).mode = .run := by
  cases h with
  | @mk f xs ys todo mode h1 h2 h3 h4 =>
    cases todo with
    | nil => exact ⟨.mk h1 h2 h3 h4, hm⟩
    | cons i k =>
      have h3' := h3
      simp only [List.all_cons, Bool.and_eq_true] at h3
      cases i with
      | inRegion ops t => cases t with
        | nil => exact ⟨.mk h1 h2 h3' h4, hm⟩
        | cons i r =>
          have hm' : mode = .run := hm
          subst hm'
          rw [finish_fr, finish_fr]
          exact ⟨.mk h1 (finish_rel (ops := ops) (i := i) h2 hv) (by simp only [List.all_cons, h3.2]; simpa [okItem] using h3.1) (.inl rfl), rfl⟩
      | code c => exact ⟨.mk h1 h2 h3' h4, hm⟩
      | inBlock id => exact ⟨.mk h1 h2 h3' h4, hm⟩
      | inLoop c => exact ⟨.mk h1 h2 h3' h4, hm⟩
      | inScope c => exact ⟨.mk h1 h2 h3' h4, hm⟩
      | _ => cases h3.1
theorem step_ret (hF : okFuncs P F) (hf : F f = true) (ha : AR F p xs ys) {a b : Frame} (hab : FR P F p a b) (hm : a.mode = .run) (hk : KR P F p cs cs') (H : HR F p w.heap w'.heap) :
    StepAt P F main p (fr0 f xs todo .returning) (a :: cs) (fr0 f ys todo .returning) (b :: cs') bot bot' w w' := by
  obtain ⟨fn, hfn, _, _⟩ := hF f hf
  have st : ∀ (m : Bool) (zs : Array Value) (c : Frame) (cs : List Frame) (w w1 : World) (v : Value) (es : Array Event), (results fn zs).runT P w #[] = (.ok v w1, es) → stepG P m (G (fr0 f zs todo .returning) (c :: cs)) w = .go (G (c.finish v) cs) w1 (seen P f es) := by
    intro m zs c cs w w1 v es h
    have h1 : (results fn zs).run P w = .ok v w1 := by rw [← Sem.runT_fst P (results fn zs) w #[], h]
    have h2 : (results fn zs).events P w #[] = es := by unfold Sem.events; rw [h]
    simp [G, stepG, fr0, unwind, hfn, h1, h2, doReturn, GStep.after]
  have bad : ∀ (zs : Array Value) (cs : List Frame) (w : World) (hh : Halt) (wz : World), (results fn zs).run P w = .halt hh wz → ∃ o w1 es, stepG P true (G (fr0 f zs todo .returning) cs) w = .ended o w1 es := by
    intro zs cs w hh wz h
    cases hh <;> exact ⟨_, _, _, by simp [G, stepG, fr0, unwind, hfn, h, GStep.after]; exact ⟨rfl, rfl, rfl⟩⟩
  rcases (sr_results fn ha).twin w w' H with ⟨m, v, v', q, h₁, w₁', es, hv, hH, hD, hd, hl, hr⟩ | ⟨m, hbad⟩
  · have hD2 : Did p q w' w₁' (seen P f (#[] ++ es)) := { hD with evs := fun e he => hD.evs e (by have := seen_sub (P := P) f (#[] ++ es) e he; simpa using this) }
    have hfin := finish_FR (hab.le hD.le) hm hv
    refine .inl ⟨m, q, _, cs, _, cs', h₁, w₁', _, hfin.1, hk.le hD.le, hH, hD2, hd, fun T hT => ?_, st main ys b _ _ _ _ _ (hr #[])⟩
    have e := hl T hT
    rw [← Sem.runT_fst P _ _ #[]] at e
    exact ⟨_, st true xs a _ _ _ _ _ (Prod.ext e rfl)⟩
  · refine .inr ⟨m, fun T hT => ?_⟩
    obtain ⟨hh, wz, hb, e⟩ := hbad T hT
    obtain ⟨o, w1, es, e2⟩ := bad xs (a :: cs ++ bot) _ hh wz e
    rw [e2]; trivial
/-- A goroutine of the lone run and the one beside others: at a place that is not yet the last. -/
theorem step_any (hF : okFuncs P F) (hB : okBodies P F) {fr fr' : Frame} (hfr : FR P F p fr fr') (hk : KR P F p cs cs') (H : HR F p w.heap w'.heap) (hn : ¬ (cs = [] ∧ fr.mode = .returning)) :
    StepAt P F main p fr cs fr' cs' bot bot' w w' := by
  cases hfr with
  | mk h1 h2 h3 h4 =>
    rcases h4 with rfl | rfl
    · exact step_run hF hB h1 h2 hk H h3
    · cases hk with
      | nil => exact absurd ⟨rfl, rfl⟩ hn
      | cons g1 g2 g3 => exact step_ret hF h1 h2 g1 g2 g3 H
end
end Go.Proofs.Ytebgcemglicjiaa

/- A call that returns alone returns beside others. No condition of ours. -/
namespace Go.Proofs.Ytebgcemglicjiaa
open Go.Conc
/-- Whoever called the lone run: behind the return it ends at once. -/
def stub : Frame := { fn := 0, tmps := #[], todo := [.code (.refuse "")], defers := [{ target := .nil, args := #[] }], mode := .run, kind := .normal }
section
variable {P : Program} {F : Nat → Bool}
theorem steps_next {m m1 m' : Machine} (h : step P m = .next m1) (hs : Steps P m m') : m = m' ∨ Steps P m1 m' := by
  obtain ⟨n, hn⟩ := hs
  cases n with
  | zero => left; simpa [runN] using hn
  | succ n => right; exact ⟨n, by simpa [runN, h] using hn⟩
theorem steps_ended {m m' : Machine} {o : Outcome} {w : World} (h : step P m = .ended o w) (hs : Steps P m m') : m = m' := by
  obtain ⟨n, hn⟩ := hs
  cases n with
  | zero => simpa [runN] using hn
  | succ n => simp [runN, h] at hn
theorem lone_inj {a b : Frame} {l l' : List Frame} {w w' : World} (h : lone a l w = lone b l' w') : a = b ∧ l = l' ∧ w = w' := by
  unfold lone at h
  injection h with h1 h2
  injection h2 with h2
  injection h2 with h2
  injection h2 with h2 h3
  exact ⟨h2, h3, h1⟩
theorem step_G {fr fr' : Frame} {cs cs' : List Frame} {w w' : World} {es : Array Event} (h : stepG P true (G fr cs) w = .go (G fr' cs') w' es) : step P (lone fr cs w) = .next (lone fr' cs' w') :=
  step_lone_go (by rw [show ({ frame := fr, callers := cs, status := .running, dying := none } : Goroutine) = G fr cs from rfl, h]; rfl)
theorem step_E {fr : Frame} {cs : List Frame} {w w' : World} {o : Outcome} {es : Array Event} (h : stepG P true (G fr cs) w = .ended o w' es) : step P (lone fr cs w) = .ended o w' :=
  step_lone_ended (by rw [show ({ frame := fr, callers := cs, status := .running, dying := none } : Goroutine) = G fr cs from rfl, h]; rfl)
theorem stub_run (w : World) : ∃ o w', step P (lone stub [] w) = .ended o w' := ⟨_, _, step_E (es := #[]) (by simp [G, stepG, stepG.exec, stub]; exact ⟨rfl, rfl⟩)⟩
theorem stub_raise (chain : List PanicEntry) (w : World) : ∃ o w', step P (lone (stub.raise chain) [] w) = .ended o w' := ⟨_, _, step_E (es := #[]) (by simp [G, stepG, Frame.raise, stub, unwind, callDeferred]; exact ⟨rfl, rfl⟩)⟩
theorem no_return (hF : okFuncs P F) : ∀ (L : List Frame), (∀ a ∈ L, ∃ g xs t, F g = true ∧ a = fr0 g xs t .run) → ∀ (f : FuncId) (xs : Array Value) (todo : List Item) (chain : List PanicEntry) (w : World), F f = true → ∀ (fr₁ : Frame) (w₁ : World), Steps P (lone (fr0 f xs todo (.panicking chain)) (L ++ [stub]) w) (lone fr₁ [stub] w₁) → fr₁.mode = .returning → False := by
  intro L
  induction L with
  | nil =>
    intro _ f xs todo chain w hf fr₁ w₁ hs hm
    obtain ⟨fn, hfn, _, _⟩ := hF f hf
    have st : step P (lone (fr0 f xs todo (.panicking chain)) [stub] w) = .next (lone (stub.raise chain) [] w) := step_G (es := #[]) (by simp [G, stepG, fr0, unwind, Frame.catches, hfn])
    rcases steps_next st hs with h | h
    · obtain ⟨rfl, _⟩ := lone_inj h; cases hm
    · obtain ⟨o, w', e⟩ := stub_raise (P := P) chain w
      have := steps_ended e h
      obtain ⟨_, h2, _⟩ := lone_inj this; cases h2
  | cons a L ih =>
    intro hL f xs todo chain w hf fr₁ w₁ hs hm
    obtain ⟨fn, hfn, _, _⟩ := hF f hf
    obtain ⟨g, ys, t, hg, rfl⟩ := hL a List.mem_cons_self
    have st : step P (lone (fr0 f xs todo (.panicking chain)) (fr0 g ys t .run :: L ++ [stub]) w) = .next (lone (fr0 g ys t (.panicking chain)) (L ++ [stub]) w) := step_G (es := #[]) (by simp [G, stepG, fr0, unwind, Frame.catches, hfn, Frame.raise])
    rcases steps_next st hs with h | h
    · obtain ⟨rfl, _⟩ := lone_inj h; cases hm
    · exact ih (fun a ha => hL a (List.mem_cons_of_mem _ ha)) g ys t chain w hg fr₁ w₁ h hm
theorem ret_final (hF : okFuncs P F) {f : FuncId} (hf : F f = true) {xs : Array Value} {todo : List Item} {w : World} {fr₁ : Frame} {w₁ : World} {v : Value} (hs : Steps P (lone (fr0 f xs todo .returning) [stub] w) (lone fr₁ [stub] w₁)) (hl : fr₁.leaving P w₁ (.returned v)) :
    (fr0 f xs todo .returning).leaving P w (.returned v) := by
  obtain ⟨fn, hfn, _, _⟩ := hF f hf
  cases hr : (results fn xs).run P w with
  | ok v' w2 =>
    have st : step P (lone (fr0 f xs todo .returning) [stub] w) = .next (lone stub [] w2) := step_lone_go (by simp [stepG, fr0, unwind, hfn, hr, doReturn, GStep.after]; rfl)
    rcases steps_next st hs with h | h
    · obtain ⟨rfl, _, rfl⟩ := lone_inj h; exact hl
    · obtain ⟨o, w', e⟩ := stub_run (P := P) w2
      have := steps_ended e h
      obtain ⟨_, h2, _⟩ := lone_inj this; cases h2
  | halt hh wz =>
    have st : ∃ o w', step P (lone (fr0 f xs todo .returning) [stub] w) = .ended o w' := by
      cases hh <;> exact ⟨_, _, step_lone_ended (by simp [stepG, fr0, unwind, hfn, hr, GStep.after]; exact ⟨rfl, rfl⟩)⟩
    obtain ⟨o, w', e⟩ := st
    have := steps_ended e hs
    obtain ⟨rfl, _, rfl⟩ := lone_inj this; exact hl
end
end Go.Proofs.Ytebgcemglicjiaa

/- The judgement of a goroutine beside others that owns its blocks, and the law that lifts a lone contract to it. No condition of ours. -/
namespace Go.Proofs.Ytebgcemglicjiaa
open Go.Conc
/-- What the others may do: they leave alone what is one's own, and memory only grows. -/
structure Rly (own : Nat → Prop) (w w₁ : World) : Prop where
  kept : ∀ c, own c → w₁.heap[c]? = w.heap[c]?
  size : w.heap.size ≤ w₁.heap.size
theorem Rly.refl (own : Nat → Prop) (w : World) : Rly own w w := ⟨fun _ _ => rfl, Nat.le_refl _⟩
theorem Rly.trans {own : Nat → Prop} {a b c : World} (h : Rly own a b) (g : Rly own b c) : Rly own a c := ⟨fun x hx => (g.kept x hx).trans (h.kept x hx), Nat.le_trans h.size g.size⟩
/-- An access to one's own, or a mark that tells nothing. -/
def Mine (own : Nat → Prop) (e : Event) : Prop :=
  (∃ (a : Addr) (x : Bool), e = ⟨.cell a, x, false⟩ ∧ own a.block) ∨ (∃ r, e = ⟨.obj r, false, false⟩ ∧ own r) ∨ ∃ m, e = ⟨.mark m, false, true⟩ ∧ Meek m = true
/-- What one does: nothing to what is not one's own; new blocks are one's own. -/
structure Act1 (own own' : Nat → Prop) (w w₁ : World) (es : Array Event) : Prop where
  tape : w₁.tape = w.tape
  os : w₁.os = w.os
  output : w₁.output = w.output
  size : w.heap.size ≤ w₁.heap.size
  others : ∀ c, c < w.heap.size → ¬ own' c → w₁.heap[c]? = w.heap[c]?
  mine : ∀ c, w.heap.size ≤ c → c < w₁.heap.size → own' c
  new : ∀ c, own' c → own c ∨ (w.heap.size ≤ c ∧ c < w₁.heap.size)
  old : ∀ c, own c → own' c
  evs : ∀ e ∈ es, Mine own' e
/-- A step of one's own, behind whatever the others have done. -/
def Own1 (P : Program) (main : Bool) (own : Nat → Prop) (g : Goroutine) (w w₁ : World) (own' : Nat → Prop) (g' : Goroutine) (w' : World) : Prop :=
  Rly own w w₁ ∧ ∃ es, stepG P main g w₁ = .go g' w' es ∧ g.status = .running ∧ Act1 own own' w₁ w' es
/-- On its way to a stop, whatever the others do to what is not its own. -/
inductive Way (P : Program) (main : Bool) (Stop : (Nat → Prop) → Goroutine → World → Prop) : (Nat → Prop) → Goroutine → World → Prop
  | stop {own : Nat → Prop} {g : Goroutine} {w : World} : (∀ w₁, Rly own w w₁ → Stop own g w₁) → Way P main Stop own g w
  | step {own : Nat → Prop} {g : Goroutine} {w : World} (nx : World → (Nat → Prop) × Goroutine × World) : (∀ w₁, Rly own w w₁ → Own1 P main own g w w₁ (nx w₁).1 (nx w₁).2.1 (nx w₁).2.2) → (∀ w₁, Rly own w w₁ → Way P main Stop (nx w₁).1 (nx w₁).2.1 (nx w₁).2.2) → Way P main Stop own g w
/-- The blocks that stand for one of the lone run. -/
def Ren.img {N : Nat} (p : Ren N) (c : Nat) : Prop := ∃ b, p b = some c
theorem Did.act {F : Nat → Bool} {N : Nat} {p q : Ren N} {w w₁ : World} {es : Array Event} {h₁ : Array Obj} (h : Did p q w w₁ es) (H : HR F q h₁ w₁.heap) : Act1 p.img q.img w w₁ es where
  tape := h.tape
  os := h.os
  output := h.output
  size := h.size
  others c hc hn := h.others c hc fun b hb => hn ⟨b, hb⟩
  mine c h1 h2 := h.mine c h1 h2
  new c hc := by
    obtain ⟨b, hb⟩ := hc
    rcases h.new b c hb with g | g
    · exact .inl ⟨b, g⟩
    · exact .inr ⟨g, (H.lt hb).2⟩
  old c hc := by obtain ⟨b, hb⟩ := hc; exact ⟨b, h.le _ _ hb⟩
  evs e he := h.evs e he
section
variable {P : Program} {F : Nat → Bool} {main : Bool}
theorem HR.rely {N : Nat} {p : Ren N} {h : Array Obj} {w w₁ : World} (H : HR F p h w.heap) (hr : Rly p.img w w₁) : HR F p h w₁.heap :=
  ⟨H.n1, Nat.le_trans H.n2 hr.size, fun b c hb => by
    obtain ⟨o, o', h1, h2, h3⟩ := H.obj b c hb
    exact ⟨o, o', h1, (hr.kept c ⟨b, hb⟩).trans h2, h3⟩⟩
/-- The lone run from here, on every tape that answers as it has answered so far, comes to its return with this value. -/
def Ends (P : Program) (v0 : Value) (fr : Frame) (cs : List Frame) (w : World) : Prop :=
  ∀ T : Nat → Question → Nat, (∀ i, i < w.drawn → ∀ c, T i c = w.tape i c) → ∃ fr₁ w₁, Steps P (lone fr (cs ++ [stub]) { w with tape := T }) (lone fr₁ [stub] w₁) ∧ fr₁.leaving P w₁ (.returned v0)
/-- A place of the two runs. -/
structure Pt (P : Program) (F : Nat → Bool) (v0 : Value) (bot : List Frame) where
  p : Ren P.globals.size
  fr : Frame
  cs : List Frame
  fr' : Frame
  cs' : List Frame
  w : World
  w' : World
  hfr : FR P F p fr fr'
  hk : KR P F p cs cs'
  H : HR F p w.heap w'.heap
  ends : Ends P v0 fr cs w
/-- The lone run's next place. -/
def Nxt {P : Program} {F : Nat → Bool} {v0 : Value} {bot : List Frame} (a b : Pt P F v0 bot) : Prop :=
  a.w.drawn ≤ b.w.drawn ∧ (∀ i, i < a.w.drawn → ∀ c, b.w.tape i c = a.w.tape i c) ∧ (a.cs = [] → a.fr.mode ≠ .returning) ∧
    ∀ T : Nat → Question → Nat, (∀ i, i < b.w.drawn → ∀ c, T i c = b.w.tape i c) → step P (lone a.fr (a.cs ++ [stub]) { a.w with tape := T }) = .next (lone b.fr (b.cs ++ [stub]) { b.w with tape := T })
theorem kr_left {p : Ren P.globals.size} {cs cs' : List Frame} (h : KR P F p cs cs') : ∀ a ∈ cs, ∃ g xs t, F g = true ∧ a = fr0 g xs t .run := by
  induction h with
  | nil => intro a ha; cases ha
  | cons h1 h2 _ ih =>
    intro a ha
    rcases List.mem_cons.1 ha with rfl | ha
    · cases h1 with
      | mk g1 g2 g3 g4 =>
        have : _ = FrameMode.run := h2
        simp only [fr0] at this
        subst this
        exact ⟨_, _, _, g1, rfl⟩
    · exact ih a ha
/-- From a place that is not the last: whatever the others have done, the next place. -/
theorem next_pt (hF : okFuncs P F) (hB : okBodies P F) {v0 : Value} {bot : List Frame} (a : Pt P F v0 bot) (hn : ¬ (a.cs = [] ∧ a.fr.mode = .returning)) {w1 : World} (hr : Rly a.p.img a.w' w1) :
    ∃ b : Pt P F v0 bot, Nxt a b ∧ ∃ es, stepG P main (G a.fr' (a.cs' ++ bot)) w1 = .go (G b.fr' (b.cs' ++ bot)) b.w' es ∧ Act1 a.p.img b.p.img w1 b.w' es := by
  have H1 := a.H.rely hr
  have tape : ∀ m, ∃ T : Nat → Question → Nat, (∀ i, i < a.w.drawn → ∀ c, T i c = a.w.tape i c) ∧ Tapes T a.w.drawn w1 m := fun m =>
    ⟨fun i c => if i < a.w.drawn then a.w.tape i c else w1.tape (w1.drawn + (i - a.w.drawn)) c, fun i hi c => if_pos hi, fun i _ c => by
      show (if a.w.drawn + i < a.w.drawn then _ else _) = _
      rw [if_neg (by omega), show a.w.drawn + i - a.w.drawn = i by omega]⟩
  rcases step_any (main := main) (bot := [stub]) (bot' := bot) hF hB a.hfr a.hk H1 hn with ⟨m, q, fr₁, cs₁, fr₁', cs₁', h₁, w₁', es, g1, g2, g3, g4, g5, g6, g7⟩ | ⟨m, hd⟩
  · obtain ⟨T0, t1, t2⟩ := tape m
    refine ⟨⟨q, fr₁, cs₁, fr₁', cs₁', { a.w with heap := h₁, tape := T0, drawn := a.w.drawn + m }, w₁', g1, g2, g3, ?_⟩, ⟨Nat.le_add_right _ _, fun i hi c => t1 i hi c, fun h1 h2 => hn ⟨h1, h2⟩, ?_⟩, es, g7, g4.act g3⟩
    · intro T hT
      have al : Tapes T a.w.drawn w1 m := fun i hi c => (hT (a.w.drawn + i) (by show _ < a.w.drawn + m; omega) c).trans (t2 i hi c)
      obtain ⟨es0, e⟩ := g6 T al
      obtain ⟨fr2, w2, s1, s2⟩ := a.ends T fun i hi c => (hT i (by show _ < a.w.drawn + m; omega) c).trans (t1 i hi c)
      rcases steps_next (step_G e) s1 with h | h
      · exfalso
        obtain ⟨rfl, hcs, rfl⟩ := lone_inj h
        have : a.cs = [] := by cases hc : a.cs with
          | nil => rfl
          | cons x l => rw [hc] at hcs; simp at hcs
        exact hn ⟨this, s2.1⟩
      · exact ⟨fr2, w2, h, s2⟩
    · intro T hT
      have al : Tapes T a.w.drawn w1 m := fun i hi c => (hT (a.w.drawn + i) (by show _ < a.w.drawn + m; omega) c).trans (t2 i hi c)
      obtain ⟨es0, e⟩ := g6 T al
      exact step_G e
  · exfalso
    obtain ⟨T0, t1, t2⟩ := tape m
    have hdd := hd T0 t2
    obtain ⟨fr2, w2, s1, s2⟩ := a.ends T0 t1
    have fin : ∀ {w2 : World}, lone a.fr (a.cs ++ [stub]) { a.w with tape := T0 } = lone fr2 [stub] w2 → False := fun h => by
      obtain ⟨rfl, hcs, _⟩ := lone_inj h
      have : a.cs = [] := by cases hc : a.cs with
        | nil => rfl
        | cons x l => rw [hc] at hcs; simp at hcs
      exact hn ⟨this, s2.1⟩
    generalize hs : stepG P true (G a.fr (a.cs ++ [stub])) { a.w with tape := T0 } = s at hdd
    cases s with
    | ended o w3 es => exact fin (steps_ended (step_E hs) s1)
    | go g w3 es =>
      obtain ⟨f, xs, todo, chain, hf, rfl⟩ := hdd
      rcases steps_next (step_G hs) s1 with h | h
      · exact fin h
      · exact no_return hF a.cs (kr_left a.hk) f xs todo chain w3 hf fr2 w2 h s2.1
    | _ => exact hdd
/-- What is left when the call returns: its caller goes on with the value. -/
def Back (v0 : Value) (c : Frame) (rest : List Frame) : (Nat → Prop) → Goroutine → World → Prop := fun _ g _ => g = G (c.finish v0) rest
/-- There is no endless row of places: the tape on which the lone run would take it is a tape on which it returns. -/
theorem no_row {v0 : Value} {bot : List Frame} (s : Nat → Pt P F v0 bot) (h : ∀ n, Nxt (s n) (s (n + 1))) : False := by
  have mono : ∀ k n, (s n).w.drawn ≤ (s (n + k)).w.drawn := by
    intro k
    induction k with
    | zero => intro n; exact Nat.le_refl _
    | succ k ih => intro n; exact Nat.le_trans (ih n) (h (n + k)).1
  have same : ∀ k n i, i < (s n).w.drawn → ∀ c, (s (n + k)).w.tape i c = (s n).w.tape i c := by
    intro k
    induction k with
    | zero => intro n i _ c; rfl
    | succ k ih => intro n i hi c; exact ((h (n + k)).2.1 i (Nat.lt_of_lt_of_le hi (mono k n)) c).trans (ih n i hi c)
  have agree : ∀ m n i, i < (s m).w.drawn → i < (s n).w.drawn → ∀ c, (s m).w.tape i c = (s n).w.tape i c := by
    intro m n i h1 h2 c
    rcases Nat.le_total m n with hl | hl
    · have := same (n - m) m i h1 c; rw [show m + (n - m) = n by omega] at this; exact this.symm
    · have := same (m - n) n i h2 c; rw [show n + (m - n) = m by omega] at this; exact this
  have ex : ∃ T : Nat → Question → Nat, ∀ n i, i < (s n).w.drawn → ∀ c, T i c = (s n).w.tape i c := by
    classical
    refine ⟨fun i c => if e : ∃ k, i < (s k).w.drawn then (s (Classical.choose e)).w.tape i c else 0, fun n i hi c => ?_⟩
    have e : ∃ k, i < (s k).w.drawn := ⟨n, hi⟩
    dsimp only
    rw [dif_pos e]
    exact agree _ _ i (Classical.choose_spec e) hi c
  obtain ⟨T, hT⟩ := ex
  have run : ∀ n, runN P n (lone (s 0).fr ((s 0).cs ++ [stub]) { (s 0).w with tape := T }) = .next (lone (s n).fr ((s n).cs ++ [stub]) { (s n).w with tape := T }) := by
    have key : ∀ n k, runN P n (lone (s k).fr ((s k).cs ++ [stub]) { (s k).w with tape := T }) = .next (lone (s (k + n)).fr ((s (k + n)).cs ++ [stub]) { (s (k + n)).w with tape := T }) := by
      intro n
      induction n with
      | zero => intro k; rfl
      | succ n ih =>
        intro k
        have e := (h k).2.2.2 T (hT (k + 1))
        rw [runN, e]
        have := ih (k + 1)
        rw [show k + 1 + n = k + (n + 1) by omega] at this
        exact this
    intro n
    have := key n 0
    rwa [Nat.zero_add] at this
  obtain ⟨fr₁, w₁, ⟨n, hn⟩, hl⟩ := (s 0).ends T (hT 0)
  rw [run n] at hn
  injection hn with hn
  obtain ⟨e1, e2, _⟩ := lone_inj hn
  have hc : (s n).cs = [] := by cases hc : (s n).cs with
    | nil => rfl
    | cons x l => rw [hc] at e2; simp at e2
  exact (h n).2.2.1 hc (by rw [e1]; exact hl.1)
theorem Way.step' {Stop : (Nat → Prop) → Goroutine → World → Prop} {own : Nat → Prop} {g : Goroutine} {w : World} (h : ∀ w₁, Rly own w w₁ → ∃ own' g' w', Own1 P main own g w w₁ own' g' w' ∧ Way P main Stop own' g' w') : Way P main Stop own g w := by
  classical
  have hx : ∀ w₁, ∃ x : (Nat → Prop) × Goroutine × World, Rly own w w₁ → Own1 P main own g w w₁ x.1 x.2.1 x.2.2 ∧ Way P main Stop x.1 x.2.1 x.2.2 := fun w₁ => by
    by_cases hr : Rly own w w₁
    · obtain ⟨a, b, c, d⟩ := h w₁ hr; exact ⟨(a, b, c), fun _ => d⟩
    · exact ⟨(own, g, w), fun e => absurd e hr⟩
  exact .step (fun w₁ => Classical.choose (hx w₁)) (fun w₁ hr => (Classical.choose_spec (hx w₁) hr).1) (fun w₁ hr => (Classical.choose_spec (hx w₁) hr).2)
/-- The last place: the return. -/
theorem last_way (hF : okFuncs P F) {v0 : Value} (hv : ∀ (q : Ren P.globals.size) x, VR F q v0 x → x = v0) {c : Frame} {rest : List Frame} (a : Pt P F v0 (c :: rest)) (h1 : a.cs = []) (h2 : a.fr.mode = .returning) (hk : a.cs' = []) :
    Way P main (Back v0 c rest) a.p.img (G a.fr' (c :: rest)) a.w' := by
  refine .step' fun w1 hr => ?_
  have H1 := a.H.rely hr
  have hends := a.ends
  rw [h1] at hends
  have hfr := a.hfr
  generalize a.fr = fr at hfr h2 hends
  generalize a.fr' = fr' at hfr
  cases hfr with
  | @mk f xs ys todo mode g1 g2 g3 g4 =>
    have hm : mode = .returning := h2
    subst hm
    obtain ⟨fn, hfn, _, _⟩ := hF f g1
    rcases (sr_results fn g2).twin a.w w1 H1 with ⟨m, v, v', q, h₁, w₁', es, hvv, hH, hD, hd, hl, hrr⟩ | ⟨m, hbad⟩
    · let T : Nat → Question → Nat := fun i c => if i < a.w.drawn then a.w.tape i c else w1.tape (w1.drawn + (i - a.w.drawn)) c
      have t2 : Tapes T a.w.drawn w1 m := fun i _ c => by
        show (if a.w.drawn + i < a.w.drawn then _ else _) = _
        rw [if_neg (by omega), show a.w.drawn + i - a.w.drawn = i by omega]
      obtain ⟨fr2, w2, s1, s2⟩ := hends T fun i hi c => if_pos hi
      have hlv := ret_final hF g1 s1 s2
      obtain ⟨_, _, _, fn2, hfn2, hres⟩ := hlv
      have hfn3 : P.funcs[f]? = some fn2 := hfn2
      rw [hfn] at hfn3
      cases hfn3
      have hres2 : (results fn xs).run P { a.w with tape := T } = .ok v0 { a.w with tape := T } := hres
      rw [hl T t2] at hres2
      injection hres2 with e1 e2
      subst e1
      have hvv2 : v' = v := hv q v' hvv
      subst hvv2
      have hstep : stepG P main (G (fr0 f ys todo .returning) (c :: rest)) w1 = .go (G (c.finish v') rest) w₁' (seen P f (#[] ++ es)) := by
        have hh := hrr #[]
        have e1 : (results fn ys).run P w1 = .ok v' w₁' := by rw [← Sem.runT_fst P (results fn ys) w1 #[], hh]
        have e2 : (results fn ys).events P w1 #[] = #[] ++ es := by unfold Sem.events; rw [hh]
        simp [G, stepG, fr0, unwind, hfn, e1, e2, doReturn, GStep.after]
      have hD2 : Did a.p q w1 w₁' (seen P f (#[] ++ es)) := { hD with evs := fun e he => hD.evs e (by have := seen_sub (P := P) f (#[] ++ es) e he; simpa using this) }
      exact ⟨q.img, _, _, ⟨hr, _, hstep, rfl, hD2.act hH⟩, .stop fun _ _ => rfl⟩
    · exfalso
      let T : Nat → Question → Nat := fun i c => if i < a.w.drawn then a.w.tape i c else w1.tape (w1.drawn + (i - a.w.drawn)) c
      have t2 : Tapes T a.w.drawn w1 m := fun i _ c => by
        show (if a.w.drawn + i < a.w.drawn then _ else _) = _
        rw [if_neg (by omega), show a.w.drawn + i - a.w.drawn = i by omega]
      obtain ⟨fr2, w2, s1, s2⟩ := hends T fun i hi c => if_pos hi
      obtain ⟨_, _, _, fn2, hfn2, hres⟩ := ret_final hF g1 s1 s2
      have hfn3 : P.funcs[f]? = some fn2 := hfn2
      rw [hfn] at hfn3
      cases hfn3
      obtain ⟨hh, wz, hb, e⟩ := hbad T t2
      have hres2 : (results fn xs).run P { a.w with tape := T } = .ok v0 { a.w with tape := T } := hres
      rw [e] at hres2
      cases hres2
/-- A place of the lone run is a place from which the other comes to its return, whatever the others do. -/
theorem lift_way (hF : okFuncs P F) (hB : okBodies P F) {v0 : Value} (hv : ∀ (q : Ren P.globals.size) x, VR F q v0 x → x = v0) {c : Frame} {rest : List Frame} (a : Pt P F v0 (c :: rest)) : Way P main (Back v0 c rest) a.p.img (G a.fr' (a.cs' ++ c :: rest)) a.w' := by
  classical
  refine Classical.byContradiction fun hbad => ?_
  have nxt : ∀ a : Pt P F v0 (c :: rest), ¬ Way P main (Back v0 c rest) a.p.img (G a.fr' (a.cs' ++ c :: rest)) a.w' → ∃ b : Pt P F v0 (c :: rest), Nxt a b ∧ ¬ Way P main (Back v0 c rest) b.p.img (G b.fr' (b.cs' ++ c :: rest)) b.w' := by
    intro a ha
    by_cases hfin : a.cs = [] ∧ a.fr.mode = .returning
    · exfalso
      have hc : a.cs' = [] := by
        have := a.hk
        rw [hfin.1] at this
        generalize a.cs' = l at this
        cases this; rfl
      apply ha
      rw [hc]
      exact last_way hF hv a hfin.1 hfin.2 hc
    · refine Classical.byContradiction fun hno => ha (.step' fun w1 hr => ?_)
      obtain ⟨b, hb, es, e1, e2⟩ := next_pt (main := main) hF hB a hfin hr
      refine ⟨b.p.img, _, b.w', ⟨hr, es, e1, rfl, e2⟩, Classical.byContradiction fun hw => hno ⟨b, hb, hw⟩⟩
  have sq : ∃ s : Nat → Pt P F v0 (c :: rest), ∀ n, Nxt (s n) (s (n + 1)) := by
    let St := { a : Pt P F v0 (c :: rest) // ¬ Way P main (Back v0 c rest) a.p.img (G a.fr' (a.cs' ++ c :: rest)) a.w' }
    let nx : St → St := fun a => ⟨Classical.choose (nxt a.1 a.2), (Classical.choose_spec (nxt a.1 a.2)).2⟩
    let s : Nat → St := fun n => Nat.rec ⟨a, hbad⟩ (fun _ x => nx x) n
    exact ⟨fun n => (s n).1, fun n => (Classical.choose_spec (nxt (s n).1 (s n).2)).1⟩
  obtain ⟨s, hs⟩ := sq
  exact no_row s hs
end
end Go.Proofs.Ytebgcemglicjiaa

/- A lone contract of a call on plain data is one beside others. No condition of ours. -/
namespace Go.Proofs.Ytebgcemglicjiaa
open Go.Conc
def Ren.none (N : Nat) : Ren N := { f := fun _ => Option.none, inj := fun _ _ _ h => (by cases h), low := fun _ _ h => (by cases h) }
section
variable {P : Program} {F : Nat → Bool} {main : Bool}
theorem VR.flat_eq {N : Nat} {q : Ren N} {v x : Value} (hv : flatV v = true) (h : VR F q v x) : x = v := by
  cases h with
  | ptr h => cases hv
  | slice n m h => cases hv
  | _ => first | rfl | cases hv
theorem AR.flat_eq {N : Nat} {q : Ren N} {xs ys : Array Value} (hv : xs.all flatV = true) (h : AR F q xs ys) : ys = xs := by
  refine (Array.ext h.1 fun i a b => ?_).symm
  rw [Array.all_eq_true] at hv
  exact (VR.flat_eq (hv i a) (h.2 i a b)).symm
theorem VR.plain_eq {N : Nat} {q : Ren N} {v x : Value} (hv : plainV v = true) (h : VR F q v x) : x = v := by
  cases v with
  | agg cs => cases h with | agg h1 h2 => rw [AR.flat_eq hv ⟨h1, h2⟩]
  | tuple cs => cases h with | tuple h1 h2 => rw [AR.flat_eq hv ⟨h1, h2⟩]
  | _ => exact VR.flat_eq hv h
theorem lift_call (hF : okFuncs P F) (hB : okBodies P F) {f : FuncId} (hf : F f = true) {args : Array Value} (ha : args.all flatV = true) {v0 : Value} (hv : plainV v0 = true)
    (hc : ∀ w, Calls P f args w fun e _ => e = .returned v0) {w : World} (hw : P.globals.size ≤ w.heap.size) (c : Frame) (rest : List Frame) :
    Way P main (Back v0 c rest) (Ren.none P.globals.size).img (G (Frame.enter P f args .normal) (c :: rest)) w := by
  have hfr : FR P F (Ren.none P.globals.size) (Frame.enter P f args .normal) (Frame.enter P f args .normal) := by
    obtain ⟨fn, hfn, hbody⟩ := hB f hf
    refine .mk hf ((AR.flat ha).append (AR.replicate _ VR.undef)) ?_ (.inl rfl)
    simp only [hfn, Option.bind]
    cases hb : fn.body with
    | none => rfl
    | some c => simp only [Option.getD, List.all_cons, List.all_nil, Bool.and_true]; exact hbody c hb
  have hends : Ends P v0 (Frame.enter P f args .normal) [] w := by
    intro T hT
    obtain ⟨e, w', fr, rfl, hs, _, hl⟩ := hc { w with tape := T } [stub]
    exact ⟨fr, w', hs, hl⟩
  exact lift_way (main := main) hF hB (fun q x h => VR.plain_eq hv h) ⟨Ren.none P.globals.size, _, [], _, [], w, w, hfr, .nil, ⟨hw, hw, fun b c h => by cases h⟩, hends⟩
end
end Go.Proofs.Ytebgcemglicjiaa

namespace Go.Proofs.Ytebgcemglicjiaa
open Go.Conc
/-- How far it may still be: whatever the others have done, one step nearer. -/
inductive Tr : Type
  | leaf : Tr
  | node : (World → Tr) → Tr
def Tr.lt : Tr → Tr → Prop
  | _, .leaf => False
  | t, .node f => ∃ w, t = f w
theorem Tr.wf : WellFounded Tr.lt := ⟨fun t => by
  induction t with
  | leaf => exact ⟨_, fun _ h => h.elim⟩
  | node f ih => exact ⟨_, fun t h => by obtain ⟨w, rfl⟩ := h; exact ih w⟩⟩
theorem Rly.at (own : Nat → Prop) (w : World) (d : Nat) : Rly own w (w.at d) := ⟨fun _ _ => rfl, Nat.le_refl _⟩
/-- One of the first n ranks has come nearer, the others stand. -/
def vlt (n : Nat) (f g : Nat → Tr) : Prop := ∃ i, i < n ∧ Tr.lt (f i) (g i) ∧ ∀ j, j ≠ i → f j = g j
theorem vlt_wf : ∀ n, WellFounded (vlt n)
  | 0 => ⟨fun f => ⟨_, fun g h => by obtain ⟨i, hi, _⟩ := h; omega⟩⟩
  | n + 1 => by
    refine Subrelation.wf (r := InvImage (Prod.Lex Tr.lt (vlt n)) fun f => (f n, f)) ?_ (InvImage.wf _ (Prod.lex ⟨Tr.lt, Tr.wf⟩ ⟨vlt n, vlt_wf n⟩).wf)
    intro f g h
    obtain ⟨i, hi, h1, h2⟩ := h
    show Prod.Lex Tr.lt (vlt n) (f n, f) (g n, g)
    by_cases e : i = n
    · subst e; exact Prod.Lex.left _ _ h1
    · rw [show f n = g n from h2 n (Ne.symm e)]
      exact Prod.Lex.right _ ⟨i, by omega, h1, h2⟩
end Go.Proofs.Ytebgcemglicjiaa
