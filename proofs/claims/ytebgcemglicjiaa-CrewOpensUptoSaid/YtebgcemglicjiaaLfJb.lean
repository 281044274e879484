/- An operation in the two runs. No condition of ours. -/
import Derived.Test.YtebgcemglicjiaaLfJa
import GoSem.Dispatch
/- The model's words in the two runs: loads, stores, rows, types. No condition of ours. -/
namespace Go.Proofs.Ytebgcemglicjiaa
/-- What tells nothing of an address. -/
def flatV : Value → Bool
  | .bool _ | .int _ _ | .float _ _ | .complex _ _ _ | .string _ | .pointer none | .slice none _ _ | .map none | .chan none | .nilFunc | .nilIface => true
  | _ => false
def plainV : Value → Bool
  | .agg cs => cs.all flatV
  | .tuple cs => cs.all flatV
  | v => flatV v
section
variable {P : Program} {F : Nat → Bool} {p : Ren P.globals.size}
theorem VR.flat {v : Value} (h : flatV v = true) : VR F p v v := by
  cases v with
  | pointer a => cases a with
    | none => exact .pnil
    | some a => cases h
  | slice a n c => cases a with
    | none => exact .snil n c
    | some a => cases h
  | map r => cases r with
    | none => exact .mnil
    | some a => cases h
  | chan r => cases r with
    | none => exact .cnil
    | some a => cases h
  | _ => first | (cases h; done) | constructor
theorem AR.flat {cs : Array Value} (h : cs.all flatV = true) : AR F p cs cs :=
  ⟨rfl, fun i a _ => VR.flat (by rw [Array.all_eq_true] at h; exact h i a)⟩
theorem VR.plain {v : Value} (h : plainV v = true) : VR F p v v := by
  cases v with
  | agg cs => exact .agg rfl (AR.flat (F := F) (p := p) h).2
  | tuple cs => exact .tuple rfl (AR.flat (F := F) (p := p) h).2
  | _ => exact VR.flat h

variable {α β : Type} {A : Ren P.globals.size → α → β → Prop}
theorem sr_pure {a : α} {b : β} (h : A p a b) : SR P F A p (pure a) (pure b) := .pure h
theorem sr_stuck {why : String} {s' : Sem β} : SR P F A p (stuck why) s' := .halt trivial
theorem sr_unsup {u : Unsupported} {s' : Sem β} (h : ∀ g, u ≠ .initOrder g) : SR P F A p (unsupported u) s' := .halt (by cases u <;> first | exact trivial | exact absurd rfl (h _))
theorem sr_panic {v : Value} {s' : Sem β} : SR P F A p (goPanic v) s' := .halt trivial
theorem doom_rt (e : RuntimeError) (he : match e with | .typeAssertion .. => False | .panicNil => False | _ => True) (w : World) : ∃ hh wz, Bad hh ∧ (runtimePanic e : Sem α).run P w = .halt hh wz := by
  cases e <;> first | exact he.elim | exact ⟨_, _, (show Bad (.panic _) from trivial), rfl⟩
theorem sr_rt {e : RuntimeError} {s' : Sem β} (he : match e with | .typeAssertion .. => False | .panicNil => False | _ => True) : SR P F A p (runtimePanic e) s' := .doom fun w => doom_rt e he w
theorem sr_bounds {k : IntKind} {x y : Int} {c : BoundsCode} {s' : Sem β} : SR P F A p (boundsPanic k x y c) s' := .doom fun w => by
  unfold boundsPanic
  split
  · rw [Sem.run_bind]
    simp only [Sem.run_map, choose, Sem.run]
    split <;> exact doom_rt (.bounds _ _ _ _) trivial _
  · exact doom_rt (.bounds _ _ _ _) trivial _
theorem sr_underlying (t : TypeId) : SR P F (fun _ a b => a = b ∧ P.underlying t = some a) p (underlying t) (underlying t) := by
  unfold underlying program
  refine SR.bind (A := fun _ a b => a = P ∧ b = P) (.program (.pure ⟨rfl, rfl⟩)) fun q _ a b hab => ?_
  obtain ⟨rfl, rfl⟩ := hab
  split
  · rename_i d hd; exact sr_pure ⟨rfl, hd⟩
  · exact sr_stuck
theorem sr_typeInfo (t : TypeId) : SR P F (fun _ a b => a = b ∧ P.info? t = some a) p (typeInfo t) (typeInfo t) := by
  unfold typeInfo program
  refine SR.bind (A := fun _ a b => a = P ∧ b = P) (.program (.pure ⟨rfl, rfl⟩)) fun q _ a b hab => ?_
  obtain ⟨rfl, rfl⟩ := hab
  split
  · rename_i d hd; exact sr_pure ⟨rfl, hd⟩
  · exact sr_stuck
theorem sr_program : SR P F (fun _ a b => a = P ∧ b = P) p program program := .program (.pure ⟨rfl, rfl⟩)
theorem sr_sizeOf (t : TypeId) : SR P F (fun _ a b => a = b ∧ ∃ i, P.info? t = some i ∧ i.size = a) p (sizeOf t) (sizeOf t) := by
  unfold sizeOf
  refine (sr_typeInfo t).bind fun q _ a b hab => ?_
  obtain ⟨rfl, h⟩ := hab
  exact sr_pure ⟨rfl, _, h, rfl⟩
theorem sr_isAgg (t : TypeId) : SR P F (fun _ a b => a = b) p (isAgg t) (isAgg t) := by
  unfold isAgg
  refine (sr_underlying t).bind fun q _ a b hab => ?_
  obtain ⟨rfl, h⟩ := hab
  cases a <;> exact sr_pure rfl
/-- A type whose zero tells of no address. -/
def zeroOk (P : Program) (t : TypeId) : Bool := match (P.info? t).bind (·.zero) with
  | some v => plainV v
  | none => true
theorem sr_zero {t : TypeId} (h : zeroOk P t = true) : SR P F (fun q a b => VR F q a b ∧ AR F q a.cells b.cells) p (zeroValue t) (zeroValue t) := by
  unfold zeroValue
  refine (sr_typeInfo t).bind fun q _ a b hab => ?_
  obtain ⟨rfl, hi⟩ := hab
  unfold zeroOk at h
  rw [hi] at h
  simp only [Option.bind] at h
  cases hz : a.zero with
  | none => exact sr_unsup (fun g => by simp)
  | some v => rw [hz] at h; exact sr_pure ⟨VR.plain h, (VR.plain h).cells⟩
theorem sr_load {a b : Addr} (h : DR p a b) : SR P F (VR F) p (load a) (load b) := .load h fun _ _ hv => .pure hv
theorem sr_store {a b : Addr} {v v' : Value} (h : DR p a b) (hv : VR F p v v') : SR P F (fun _ _ _ => True) p (store a v) (store b v') := .store h hv (.pure trivial)
theorem sr_loadCellsFrom {a b : Addr} (n : Nat) : ∀ {p : Ren P.globals.size} (i : Nat) {x y : Array Value}, DR p a b → AR F p x y → SR P F (AR F) p (loadCellsFrom a i n x) (loadCellsFrom b i n y) := by
  induction n with
  | zero => intro p i x y h hx; exact sr_pure hx
  | succ n ih =>
    intro p i x y h hx
    unfold loadCellsFrom
    exact (sr_load (h.add i)).bind fun q hq v v' hv => ih (i + 1) (h.le hq) ((hx.le hq).push hv)
theorem sr_loadCells {a b : Addr} (h : DR p a b) (n : Nat) : SR P F (AR F) p (loadCells a n) (loadCells b n) := sr_loadCellsFrom n 0 h AR.empty
theorem sr_storeCells {a b : Addr} : ∀ {p : Ren P.globals.size} (l l' : List Value) (i : Nat), DR p a b → l.length = l'.length → (∀ (j : Nat) x y, l[j]? = some x → l'[j]? = some y → VR F p x y) → SR P F (fun _ _ _ => True) p (storeCells a l i) (storeCells b l' i) := by
  intro p l
  induction l generalizing p with
  | nil => intro l' i h hl _; cases l' with
    | nil => exact sr_pure trivial
    | cons y l' => cases hl
  | cons x l ih => intro l' i h hl hx; cases l' with
    | nil => cases hl
    | cons y l' =>
      unfold storeCells
      exact (sr_store (h.add i) (hx 0 x y rfl rfl)).bind fun q hq _ _ _ => ih l' (i + 1) (h.le hq) (by simpa using hl) fun j u v h1 h2 => (hx (j + 1) u v (by simpa using h1) (by simpa using h2)).le hq
theorem AR.list {xs ys : Array Value} (h : AR F p xs ys) : xs.toList.length = ys.toList.length ∧ ∀ (j : Nat) x y, xs.toList[j]? = some x → ys.toList[j]? = some y → VR F p x y := by
  refine ⟨by simpa using h.1, fun j x y h1 h2 => ?_⟩
  rcases h.get? j with ⟨e1, e2⟩ | ⟨u, v, e1, e2, e3⟩
  · rw [Array.getElem?_toList] at h1; rw [e1] at h1; cases h1
  · rw [Array.getElem?_toList] at h1 h2; rw [e1] at h1; rw [e2] at h2; cases h1; cases h2; exact e3
theorem sr_loadVar (t : TypeId) {a b : Addr} (h : DR p a b) : SR P F (VR F) p (loadVar t a) (loadVar t b) := by
  unfold loadVar
  refine (sr_isAgg t).bind fun q hq x y hxy => ?_
  obtain rfl := hxy
  cases x with
  | true =>
    refine (sr_sizeOf t).bind fun q2 hq2 n n' hn => ?_
    obtain ⟨rfl, _⟩ := hn
    exact (sr_loadCells ((h.le hq).le hq2) n).bind fun q3 _ c c' hc => sr_pure (.agg hc.1 hc.2)
  | false => exact sr_load (h.le hq)
theorem sr_storeVar (t : TypeId) {a b : Addr} {v v' : Value} (h : DR p a b) (hv : VR F p v v') : SR P F (fun _ _ _ => True) p (storeVar t a v) (storeVar t b v') := by
  unfold storeVar
  refine (sr_sizeOf t).bind fun q hq x y hxy => ?_
  obtain ⟨rfl, _⟩ := hxy
  rw [show v'.cells.size = v.cells.size from hv.cells.1.symm]
  split
  · exact sr_stuck
  · have hl := AR.list (VR.cells (hv.le hq))
    exact sr_storeCells _ _ 0 (h.le hq) hl.1 hl.2
theorem sr_newRow (t : TypeId) {c c' : Array Value} (h : AR F p c c') : SR P F (fun q a b => DR q a b) p (newRow t c) (newRow t c') := by
  unfold newRow newObj
  refine SR.bind (A := fun q a b => q a = some b) (.new (.inl ⟨_, _, _, _, rfl, rfl, h⟩) fun r s _ _ _ _ => .pure Ren.ext_at) fun q _ a b hab => ?_
  exact sr_pure ⟨hab, rfl, rfl⟩
theorem sr_newVar (t : TypeId) {v v' : Value} (h : VR F p v v') : SR P F (fun q a b => DR q a b) p (newVar t v) (newVar t v') := sr_newRow t h.cells
theorem sr_part (t : TypeId) {c c' : Array Value} (h : AR F p c c') (off : Nat) : SR P F (VR F) p (part t c off) (part t c' off) := by
  unfold part
  refine (sr_isAgg t).bind fun q hq x y hxy => ?_
  obtain rfl := hxy
  cases x with
  | true =>
    refine (sr_sizeOf t).bind fun q2 hq2 n n' hn => ?_
    obtain ⟨rfl, _⟩ := hn
    have := ((h.le hq).le hq2).extract off (off + n)
    exact sr_pure (.agg this.1 this.2)
  | false =>
    rcases (h.le hq).get? off with ⟨e1, e2⟩ | ⟨u, v, e1, e2, e3⟩
    · simp only [e1]; exact sr_stuck
    · simp only [e1, e2]; exact sr_pure e3
theorem sr_asIntOf {v v' : Value} (h : VR F p v v') : SR P F (fun _ a b => a = b) p (asIntOf v) (asIntOf v') := by
  cases h <;> first | exact sr_pure rfl | exact sr_stuck | exact sr_unsup (fun g => by simp)
theorem sr_asInt {v v' : Value} (h : VR F p v v') : SR P F (fun _ a b => a = b) p (asInt v) (asInt v') := by
  unfold asInt
  exact (sr_asIntOf h).bind fun q _ a b hab => sr_pure (by rw [hab])
theorem sr_asBool {v v' : Value} (h : VR F p v v') : SR P F (fun _ a b => a = b) p (asBool v) (asBool v') := by
  cases h <;> first | exact sr_pure rfl | exact sr_stuck
theorem sr_asAgg {v v' : Value} (h : VR F p v v') : SR P F (AR F) p (asAgg v) (asAgg v') := by
  cases h with
  | agg h1 h2 => exact sr_pure ⟨h1, h2⟩
  | _ => exact sr_stuck
theorem sr_sureAddr {v v' : Value} (h : VR F p v v') : SR P F DR p (Instr.sureAddr v) (Instr.sureAddr v') := by
  cases h with
  | ptr h1 => exact sr_pure ⟨h1, rfl, rfl⟩
  | _ => exact sr_stuck
theorem sr_asAddr {v v' : Value} (h : VR F p v v') : SR P F DR p (asAddr v) (asAddr v') := by
  cases h with
  | ptr h1 => exact sr_pure ⟨h1, rfl, rfl⟩
  | _ => first | exact sr_stuck | exact sr_rt (e := .nilDeref) trivial
end
end Go.Proofs.Ytebgcemglicjiaa

/- Operators in the two runs. No condition of ours. -/
namespace Go.Proofs.Ytebgcemglicjiaa
section
variable {P : Program} {F : Nat → Bool}
/-- The same value in both runs. -/
abbrev Same {N : Nat} {α : Type} : Ren N → α → α → Prop := fun _ a b => a = b
theorem sq {α β γ : Type} {B : Ren P.globals.size → β → γ → Prop} {p : Ren P.globals.size} {s : Sem α} {f : α → Sem β} {f' : α → Sem γ} (h : SR P F Same p s s) (hf : ∀ q : Ren P.globals.size, p.le q → ∀ a, SR P F B q (f a) (f' a)) : SR P F B p (s >>= f) (s >>= f') :=
  h.bind fun q hq a b hab => by cases hab; exact hf q hq a
theorem sq_choose (c : Question) {p : Ren P.globals.size} : SR P F Same p (choose c) (choose c) := .choose fun _ => .pure rfl
theorem same_v {p : Ren P.globals.size} {s : Sem Value} (h : SR P F (fun _ a b => a = b ∧ flatV a = true) p s s) : SR P F (VR F) p s s := h.mono fun q _ a b hab => by obtain ⟨rfl, h⟩ := hab; exact VR.flat h
abbrev SameV {N : Nat} : Ren N → Value → Value → Prop := fun _ a b => a = b ∧ flatV a = true
theorem sf_arith (op : BinOp) (k : FloatKind) (x y : Nat) {p : Ren P.globals.size} : SR P F SameV p (Op.floatArith op k x y) (Op.floatArith op k x y) := by
  have key : ∀ (r : Option Nat) (p : Ren P.globals.size), SR P F SameV p (match r with | some r => pure (Value.float k r) | none => do let v ← choose (Question.nanBits k x y); pure (Value.float k v)) (match r with | some r => pure (Value.float k r) | none => do let v ← choose (Question.nanBits k x y); pure (Value.float k v)) := fun r p => by
    cases r with
    | some r => exact sr_pure ⟨rfl, rfl⟩
    | none => exact sq (sq_choose _) fun q _ a => sr_pure ⟨rfl, rfl⟩
  unfold Op.floatArith
  cases op <;> dsimp only <;> first | exact sq (sr_pure rfl) (fun q _ a => key a q) | exact sq sr_stuck (fun q _ a => key a q)
theorem sf_cmp (op : BinOp) (k : FloatKind) (x y : Nat) {p : Ren P.globals.size} : SR P F SameV p (Op.floatCmp op k x y) (Op.floatCmp op k x y) := by
  unfold Op.floatCmp
  cases op <;> first | exact sr_pure ⟨rfl, rfl⟩ | exact sr_stuck
theorem sc_arith (op : BinOp) (k : FloatKind) (x y : Nat) {p : Ren P.globals.size} : SR P F Same p (Op.Complex.arith op k x y) (Op.Complex.arith op k x y) := by
  unfold Op.Complex.arith
  refine (sf_arith op k x y).bind fun q _ a b hab => ?_
  obtain ⟨rfl, _⟩ := hab
  cases a <;> first | exact sr_pure rfl | exact sr_stuck
theorem sc_cmp (op : BinOp) (k : FloatKind) (x y : Nat) {p : Ren P.globals.size} : SR P F Same p (Op.Complex.cmp op k x y) (Op.Complex.cmp op k x y) := by
  unfold Op.Complex.cmp
  refine (sf_cmp op k x y).bind fun q _ a b hab => ?_
  obtain ⟨rfl, _⟩ := hab
  cases a <;> first | exact sr_pure rfl | exact sr_stuck
theorem sf_conv (k : FloatKind) (x : Nat) (d : FloatKind) {p : Ren P.globals.size} : SR P F SameV p (Conv.floatToFloat k x d) (Conv.floatToFloat k x d) := by
  unfold Conv.floatToFloat
  split
  · exact sr_pure ⟨rfl, rfl⟩
  · split
    · exact sq (sq_choose _) fun q _ a => sr_pure ⟨rfl, rfl⟩
    · exact sr_pure ⟨rfl, rfl⟩
    · dsimp only
      split
      · exact sq (sq_choose _) fun q _ a => sr_pure ⟨rfl, rfl⟩
      · exact sr_pure ⟨rfl, rfl⟩
theorem sc_conv (k : FloatKind) (x : Nat) (d : FloatKind) {p : Ren P.globals.size} : SR P F Same p (Op.Complex.conv k x d) (Op.Complex.conv k x d) := by
  unfold Op.Complex.conv
  split
  · exact sr_pure rfl
  · refine (sf_conv k x d).bind fun q _ a b hab => ?_
    obtain ⟨rfl, _⟩ := hab
    cases a <;> first | exact sr_pure rfl | exact sr_stuck
theorem sc_product (a b c d : Nat) {p : Ren P.globals.size} : SR P F Same p (Op.Complex.product a b c d) (Op.Complex.product a b c d) := by
  unfold Op.Complex.product Op.Complex.mul Op.Complex.sub Op.Complex.add
  repeat (first | exact sr_pure rfl | (refine sq (sc_arith _ _ _ _) fun q _ a => ?_))
theorem sc_corrected (e a b c d : Nat) {p : Ren P.globals.size} : SR P F Same p (Op.Complex.corrected e a b c d) (Op.Complex.corrected e a b c d) := by
  unfold Op.Complex.corrected Op.Complex.mul Op.Complex.sub Op.Complex.add
  repeat (first | exact sr_pure rfl | (refine sq (sc_arith _ _ _ _) fun q _ a => ?_))
theorem sc_quotient (a b c d : Nat) {p : Ren P.globals.size} : SR P F Same p (Op.Complex.quotient a b c d) (Op.Complex.quotient a b c d) := by
  have tail : ∀ (e f : Nat) (p : Ren P.globals.size), SR P F Same p (do
      let zero := (← Op.Complex.cmp .eql .f64 c 0) && (← Op.Complex.cmp .eql .f64 d 0)
      if !(Op.Complex.isNaN e && Op.Complex.isNaN f) then pure (e, f)
      else if zero && (!Op.Complex.isNaN a || !Op.Complex.isNaN b) then
        pure (← Op.Complex.mul (Op.Complex.copysign Op.Complex.inf c) a, ← Op.Complex.mul (Op.Complex.copysign Op.Complex.inf c) b)
      else if (Op.Complex.isInf a || Op.Complex.isInf b) && Op.Complex.isFinite c && Op.Complex.isFinite d then
        Op.Complex.corrected Op.Complex.inf (Op.Complex.inf2one a) (Op.Complex.inf2one b) c d
      else if (Op.Complex.isInf c || Op.Complex.isInf d) && Op.Complex.isFinite a && Op.Complex.isFinite b then
        Op.Complex.corrected 0 a b (Op.Complex.inf2one c) (Op.Complex.inf2one d)
      else pure (e, f) : Sem (Nat × Nat)) (do
      let zero := (← Op.Complex.cmp .eql .f64 c 0) && (← Op.Complex.cmp .eql .f64 d 0)
      if !(Op.Complex.isNaN e && Op.Complex.isNaN f) then pure (e, f)
      else if zero && (!Op.Complex.isNaN a || !Op.Complex.isNaN b) then
        pure (← Op.Complex.mul (Op.Complex.copysign Op.Complex.inf c) a, ← Op.Complex.mul (Op.Complex.copysign Op.Complex.inf c) b)
      else if (Op.Complex.isInf a || Op.Complex.isInf b) && Op.Complex.isFinite c && Op.Complex.isFinite d then
        Op.Complex.corrected Op.Complex.inf (Op.Complex.inf2one a) (Op.Complex.inf2one b) c d
      else if (Op.Complex.isInf c || Op.Complex.isInf d) && Op.Complex.isFinite a && Op.Complex.isFinite b then
        Op.Complex.corrected 0 a b (Op.Complex.inf2one c) (Op.Complex.inf2one d)
      else pure (e, f) : Sem (Nat × Nat)) := by
    intro e f p
    refine sq (sc_cmp _ _ _ _) fun q _ x => ?_
    refine sq ?_ fun q _ y => ?_
    · first | exact sc_cmp _ _ _ _ | (cases x <;> first | exact sc_cmp _ _ _ _ | exact sr_pure rfl)
    · dsimp only
      repeat' split
      all_goals first | exact sr_pure rfl | exact sc_corrected _ _ _ _ _ | exact sq (sc_arith _ _ _ _) fun q _ u => sq (sc_arith _ _ _ _) fun q _ v => sr_pure rfl
  unfold Op.Complex.quotient
  refine sq (sc_cmp _ _ _ _) fun q _ x => ?_
  cases x
  · exact sq (sc_arith _ _ _ _) fun q _ x1 => sq (sc_arith _ _ _ _) fun q _ x2 => sq (sc_arith _ _ _ _) fun q _ x3 => sq (sc_arith _ _ _ _) fun q _ x4 => sq (sc_arith _ _ _ _) fun q _ x5 => sq (sc_arith _ _ _ _) fun q _ x6 => sq (sc_arith _ _ _ _) fun q _ x7 => sq (sc_arith _ _ _ _) fun q _ x8 => sq (sc_arith _ _ _ _) fun q _ x9 => tail _ _ _
  · exact sq (sc_arith _ _ _ _) fun q _ x1 => sq (sc_arith _ _ _ _) fun q _ x2 => sq (sc_arith _ _ _ _) fun q _ x3 => sq (sc_arith _ _ _ _) fun q _ x4 => sq (sc_arith _ _ _ _) fun q _ x5 => sq (sc_arith _ _ _ _) fun q _ x6 => sq (sc_arith _ _ _ _) fun q _ x7 => sq (sc_arith _ _ _ _) fun q _ x8 => sq (sc_arith _ _ _ _) fun q _ x9 => tail _ _ _
theorem sc_op (op : BinOp) (k : FloatKind) (a b c d : Nat) {p : Ren P.globals.size} : SR P F SameV p (Op.complexOp op k a b c d) (Op.complexOp op k a b c d) := by
  unfold Op.complexOp
  cases op
  all_goals first | exact sr_stuck | skip
  all_goals dsimp only
  all_goals repeat (first | exact sr_pure ⟨rfl, rfl⟩ | (refine sq (sc_conv _ _ _) fun q _ a => ?_) | (refine sq (sc_cmp _ _ _ _) fun q _ a => ?_) | (refine sq (sc_arith _ _ _ _) fun q _ a => ?_) | (refine sq (sc_product _ _ _ _) fun q _ a => ?_) | (refine sq (sc_quotient _ _ _ _) fun q _ a => ?_) | split)
end
end Go.Proofs.Ytebgcemglicjiaa

/- Addresses compared, and binary operators, in the two runs. No condition of ours. -/
namespace Go.Proofs.Ytebgcemglicjiaa
section
variable {P : Program} {F : Nat → Bool} {p : Ren P.globals.size}
theorem DR.blocks {N : Nat} {p : Ren N} {a a' b b' : Addr} (h : DR p a a') (g : DR p b b') : (a.block == b.block) = (a'.block == b'.block) := by
  rw [Bool.eq_iff_iff, beq_iff_eq, beq_iff_eq]
  constructor
  · intro e; have := h.1; rw [e, g.1] at this; exact (Option.some.inj this).symm
  · intro e; exact p.inj _ _ _ h.1 (by rw [e]; exact g.1)
theorem DR.same {N : Nat} {p : Ren N} {a a' b b' : Addr} (h : DR p a a') (g : DR p b b') : (a == b) = (a' == b') := by
  have e := h.blocks g
  rw [Bool.eq_iff_iff, beq_iff_eq, beq_iff_eq] at e
  rw [Bool.eq_iff_iff, beq_iff_eq, beq_iff_eq]
  obtain ⟨b1, o1, s1⟩ := a; obtain ⟨b2, o2, s2⟩ := a'; obtain ⟨b3, o3, s3⟩ := b; obtain ⟨b4, o4, s4⟩ := b'
  obtain ⟨_, h2, h3⟩ := h; obtain ⟨_, g2, g3⟩ := g
  simp only at e h2 h3 g2 g3
  subst h2 h3 g2 g3
  simp only [Addr.mk.injEq]
  rw [e]
theorem dr {N : Nat} {p : Ren N} {b c : Nat} (o : Nat) (s : Option Nat) (h : p b = some c) : DR p ⟨b, o, s⟩ ⟨c, o, s⟩ := ⟨h, rfl, rfl⟩
theorem sr_shape {r s : Nat} (h : p r = some s) : SR P F Same p (shape r) (shape s) := .shape h fun _ => .pure rfl
theorem sr_frozen {a b : Addr} (h : DR p a b) : SR P F Same p (frozen a) (frozen b) := .frozen h fun _ => .pure rfl
theorem sr_freeze {a b : Addr} (h : DR p a b) (n : Nat) : SR P F (fun _ _ _ => True) p (freeze a n) (freeze b n) := .freeze h (.pure trivial)
/-- What a place is a view of. -/
abbrev ViewR {N : Nat} : Ren N → Option (Addr × TypeId) → Option (Addr × TypeId) → Prop := fun q a b => (a = none ∧ b = none) ∨ ∃ x x' t, a = some (x, t) ∧ b = some (x', t) ∧ DR q x x'
theorem sr_viewAt {r s : Nat} (h : p r = some s) : SR P F ViewR p (viewAt r) (viewAt s) := by
  unfold viewAt
  refine (sr_shape h).bind fun q hq a b hab => ?_
  cases hab
  cases a with
  | some x => exact sr_pure (.inl ⟨rfl, rfl⟩)
  | none => exact .getObj (hq _ _ h) (fun a a' t ha => sr_pure (.inr ⟨a, a', t, rfl, rfl, ha⟩)) (fun a a' l _ => sr_pure (.inl ⟨rfl, rfl⟩))
/-- What address a number was made of. -/
abbrev NumR {N : Nat} : Ren N → Option (Addr × Bool) → Option (Addr × Bool) → Prop := fun q a b => (a = none ∧ b = none) ∨ ∃ x x' l, a = some (x, l) ∧ b = some (x', l) ∧ DR q x x'
theorem sr_numberAt {r s : Nat} (h : p r = some s) : SR P F NumR p (numberAt r) (numberAt s) := by
  unfold numberAt
  refine (sr_shape h).bind fun q hq a b hab => ?_
  cases hab
  cases a with
  | some x => exact sr_pure (.inl ⟨rfl, rfl⟩)
  | none => exact .getObj (hq _ _ h) (fun a a' t ha => sr_pure (.inl ⟨rfl, rfl⟩)) (fun a a' l ha => sr_pure (.inr ⟨a, a', l, rfl, rfl, ha⟩))
theorem sr_behind {a b : Addr} (h : DR p a b) : SR P F (fun q x y => DR q x.1 y.1 ∧ x.2 = y.2) p (behindNumber a) (behindNumber b) := by
  unfold behindNumber
  refine (sr_numberAt h.1).bind fun q hq x y hxy => ?_
  rcases hxy with ⟨rfl, rfl⟩ | ⟨u, u', l, rfl, rfl, hu⟩
  · exact sr_pure ⟨h.le hq, rfl⟩
  · exact sr_pure ⟨hu, rfl⟩
theorem sr_noView {a b : Addr} (h : DR p a b) : SR P F (fun _ _ _ => True) p (noView a) (noView b) := by
  unfold noView
  refine (sr_viewAt h.1).bind fun q hq x y hxy => ?_
  rcases hxy with ⟨rfl, rfl⟩ | ⟨u, u', t, rfl, rfl, hu⟩
  · exact sr_pure trivial
  · exact sr_unsup (fun g => by simp)
theorem sr_stringish {a b : Addr} (h : DR p a b) : SR P F Same p (stringish a) (stringish b) := by
  unfold stringish
  refine (sr_frozen h).bind fun q hq x y hxy => ?_
  cases hxy
  cases x with
  | true => exact sr_pure rfl
  | false =>
    refine (sr_shape (hq _ _ h.1)).bind fun q2 hq2 x y hxy => ?_
    cases hxy
    cases x with
    | none => exact sr_pure rfl
    | some c => exact sr_frozen (a := ⟨a.block, c.2, none⟩) (b := ⟨b.block, c.2, none⟩) ⟨hq2 _ _ (hq _ _ h.1), rfl, rfl⟩
theorem sr_none {a b : Addr} (h : DR p a b) : SR P F Same p (do pure ((← shape a.block) matches some (_, 0)) : Sem Bool) (do pure ((← shape b.block) matches some (_, 0)) : Sem Bool) := by
  refine (sr_shape h.1).bind fun q hq x y hxy => ?_
  cases hxy
  exact sr_pure rfl
theorem sr_mayBeOne {a b a' b' : Addr} (h : DR p a a') (g : DR p b b') : SR P F Same p (mayBeOne a b) (mayBeOne a' b') := by
  unfold mayBeOne
  dsimp only
  refine (sr_stringish h).bind fun q hq x y hxy => ?_
  cases hxy
  refine (sr_stringish (g.le hq)).bind fun q2 hq2 x2 y hxy => ?_
  cases hxy
  have h1 := (h.le hq).le hq2
  have g1 := (g.le hq).le hq2
  refine (sr_none h1).bind fun q3 hq3 x y hxy => ?_
  cases hxy
  refine (sr_none (g1.le hq3)).bind fun q4 hq4 x y hxy => ?_
  cases hxy
  exact sr_pure rfl
theorem sr_sameAddr {a b a' b' : Addr} (h : DR p a a') (g : DR p b b') : SR P F Same p (sameAddr a b) (sameAddr a' b') := by
  unfold sameAddr
  rw [h.blocks g]
  split
  · exact sr_pure (h.same g)
  · refine (sr_frozen h).bind fun q hq x y hxy => ?_
    cases hxy
    refine (sr_frozen (g.le hq)).bind fun q2 hq2 x2 y hxy => ?_
    cases hxy
    dsimp only
    split
    · exact sr_unsup (fun g => by simp)
    · have h1 := (h.le hq).le hq2
      have g1 := (g.le hq).le hq2
      refine (sr_noView h1).bind fun q3 hq3 _ _ _ => (sr_noView (g1.le hq3)).bind fun q4 hq4 _ _ _ => (sr_mayBeOne ((h1.le hq3).le hq4) ((g1.le hq3).le hq4)).bind fun q5 hq5 x y hxy => ?_
      cases hxy
      split
      · exact sq (sq_choose _) fun _ _ _ => sr_pure rfl
      · exact sr_pure rfl
theorem sr_samePointer {v v' u u' : Option Addr} (hv : VR F p (.pointer v) (.pointer v')) (hu : VR F p (.pointer u) (.pointer u')) : SR P F Same p (samePointer v u) (samePointer v' u') := by
  cases hv with
  | pnil => cases hu <;> exact sr_pure rfl
  | ptr h => cases hu with
    | pnil => exact sr_pure rfl
    | ptr g => exact sr_sameAddr ⟨h, rfl, rfl⟩ ⟨g, rfl, rfl⟩
/-- A type at which '==' looks at one cell. -/
def plainT (P : Program) (t : TypeId) : Bool := match P.underlying t with
  | some .bool | some (.int _) | some .string | some (.pointer _) | none => true
  | _ => false
theorem sr_equal {t : TypeId} (ht : plainT P t = true) {x x' y y' : Value} (hx : VR F p x x') (hy : VR F p y y') : SR P F Same p (Op.equal t x y) (Op.equal t x' y') := by
  unfold Op.equal Op.maxDepth Op.equalIn
  refine (sr_underlying t).bind fun q hq d d' hd => ?_
  obtain ⟨rfl, hu⟩ := hd
  replace hx := hx.le hq
  replace hy := hy.le hq
  unfold plainT at ht
  rw [hu] at ht
  cases d with
  | bool => cases hx with
    | bool b => cases hy <;> first | exact sr_pure rfl | exact sr_stuck
    | _ => exact sr_stuck
  | string => cases hx with
    | string b => cases hy <;> first | exact sr_pure rfl | exact sr_stuck
    | _ => exact sr_stuck
  | pointer e => cases hx with
    | pnil => cases hy <;> first | exact sr_pure rfl | exact sr_stuck
    | @ptr b1 c1 o1 s1 h => cases hy with
      | pnil => exact sr_pure rfl
      | @ptr b2 c2 o2 s2 g =>
        refine (sr_sizeOf e).bind fun q2 hq2 n n' hn => ?_
        obtain ⟨rfl, _⟩ := hn
        have h1 := dr o1 s1 (hq2 _ _ h)
        have g1 := dr o2 s2 (hq2 _ _ g)
        split
        · exact sr_sameAddr h1 g1
        · rw [h1.same g1]
          split
          · exact sr_pure rfl
          · exact sq (sq_choose _) fun _ _ _ => sr_pure rfl
      | _ => exact sr_stuck
    | _ => exact sr_stuck
  | int k => cases hx with
    | int k1 n1 => cases hy with
      | int k2 n2 =>
        dsimp only
        split
        · exact sr_pure rfl
        · exact sr_stuck
      | ptr g =>
        cases n1 with
        | ofNat m => cases m with
          | zero => exact sr_pure rfl
          | succ m => exact sr_unsup (fun g => by simp)
        | negSucc m => exact sr_unsup (fun g => by simp)
      | pnil =>
        cases n1 with
        | ofNat m => cases m with
          | zero => exact sr_unsup (fun g => by simp)
          | succ m => exact sr_unsup (fun g => by simp)
        | negSucc m => exact sr_unsup (fun g => by simp)
      | _ => exact sr_stuck
    | @ptr b1 c1 o1 s1 h => cases hy with
      | int k n => cases n with
        | ofNat m => cases m with
          | zero => exact sr_pure rfl
          | succ m => exact sr_unsup (fun g => by simp)
        | negSucc m => exact sr_unsup (fun g => by simp)
      | @ptr b2 c2 o2 s2 g =>
        refine (sr_behind (dr o1 s1 h)).bind fun q2 hq2 x x' hx => ?_
        refine (sr_behind (dr o2 s2 (hq2 _ _ g))).bind fun q3 hq3 y y' hy => ?_
        refine sr_program.bind fun q4 hq4 u v huv => ?_
        rw [huv.1, huv.2]
        have h1 := ((hx.1.le hq3).le hq4)
        have g1 := hy.1.le hq4
        have l1 := (q4.low _ _ h1.1).1
        have l2 := (q4.low _ _ h1.1).2
        have m1 : ¬ (x.1.block == y.1.block && decide (x.1.block < P.globals.size)) = true := by simp; omega
        have m2 : ¬ (x'.1.block == y'.1.block && decide (x'.1.block < P.globals.size)) = true := by simp; omega
        rw [if_neg m1, if_neg m2]
        refine (sr_typeInfo t).bind fun q5 hq5 u v huv => ?_
        obtain ⟨rfl, _⟩ := huv
        rw [h1.same g1]
        split
        · split
          · exact sr_pure rfl
          · exact sr_unsup (fun g => by simp)
        · exact sr_unsup (fun g => by simp)
      | _ => first | exact sr_stuck | exact sr_unsup (fun g => by simp)
    | pnil => cases hy with
      | int k n => cases n with
        | ofNat m => cases m with
          | zero => exact sr_unsup (fun g => by simp)
          | succ m => exact sr_unsup (fun g => by simp)
        | negSucc m => exact sr_unsup (fun g => by simp)
      | _ => first | exact sr_stuck | exact sr_unsup (fun g => by simp)
    | _ => cases hy <;> first | exact sr_stuck | exact sr_unsup (fun g => by simp)
  | _ => cases ht
end
end Go.Proofs.Ytebgcemglicjiaa

/- Binary operators in the two runs. No condition of ours. -/
namespace Go.Proofs.Ytebgcemglicjiaa
section
variable {P : Program} {F : Nat → Bool} {p : Ren P.globals.size}
theorem sv_mono {s : Sem Value} (h : SR P F SameV p s s) : SR P F (VR F) p s s := h.mono fun q _ a b hab => by obtain ⟨rfl, h⟩ := hab; exact VR.flat h
theorem ss_shift (op : BinOp) (k : IntKind) (a : Int) (k2 : IntKind) (b : Int) : SR P F SameV p (Op.shift op k a k2 b) (Op.shift op k a k2 b) := by
  unfold Op.shift
  split
  · exact sr_rt (e := .error _) trivial
  · cases op <;> first | exact sr_pure ⟨rfl, rfl⟩ | exact sr_stuck
theorem ss_int (op : BinOp) (t : TypeId) (k : IntKind) (a : Int) (k2 : IntKind) (b : Int) : SR P F SameV p (binOp op t (.int k a) (.int k2 b)) (binOp op t (.int k a) (.int k2 b)) := by
  by_cases hk : k = k2
  · subst hk
    cases op
    all_goals first
      | (simp only [binOp]; exact ss_shift _ _ _ _ _)
      | (simp only [binOp, ne_eq, not_true, if_false, Op.intArith, Op.intBits, Op.intCmp]; exact sr_pure ⟨rfl, rfl⟩)
      | (simp only [binOp, ne_eq, not_true, if_false, Op.intDiv]; split; exact sr_rt (e := .error _) trivial; exact sr_pure ⟨rfl, rfl⟩)
  · cases op
    all_goals first
      | (simp only [binOp]; exact ss_shift _ _ _ _ _)
      | (simp only [binOp, ne_eq, hk, not_false_eq_true, if_true]; exact sr_stuck)
theorem ss_float (op : BinOp) (t : TypeId) (k : FloatKind) (a : Nat) (k2 : FloatKind) (b : Nat) : SR P F SameV p (binOp op t (.float k a) (.float k2 b)) (binOp op t (.float k a) (.float k2 b)) := by
  by_cases hk : k = k2
  · subst hk
    cases op
    all_goals first
      | (simp only [binOp, ne_eq, not_true, if_false]; exact sf_arith _ _ _ _)
      | (simp only [binOp, ne_eq, not_true, if_false]; exact sf_cmp _ _ _ _)
  · cases op
    all_goals (simp only [binOp, ne_eq, hk, not_false_eq_true, if_true]; exact sr_stuck)
theorem ss_complex (op : BinOp) (t : TypeId) (k : FloatKind) (a b : Nat) (k2 : FloatKind) (c d : Nat) : SR P F SameV p (binOp op t (.complex k a b) (.complex k2 c d)) (binOp op t (.complex k a b) (.complex k2 c d)) := by
  by_cases hk : k = k2
  · subst hk
    cases op
    all_goals (simp only [binOp, ne_eq, not_true, if_false]; exact sc_op _ _ _ _ _ _)
  · cases op
    all_goals (simp only [binOp, ne_eq, hk, not_false_eq_true, if_true]; exact sr_stuck)
theorem ss_string (op : BinOp) (t : TypeId) (a b : ByteArray) : SR P F SameV p (binOp op t (.string a) (.string b)) (binOp op t (.string a) (.string b)) := by
  have key : SR P F SameV p (Op.stringOp op a b) (Op.stringOp op a b) := by
    unfold Op.stringOp
    dsimp only
    cases op
    all_goals first
      | exact sr_pure ⟨rfl, rfl⟩
      | exact sr_stuck
      | (dsimp only; split; exact sr_unsup (fun g => by simp); exact sr_pure ⟨rfl, rfl⟩)
  cases op <;> exact key
theorem sr_unsafeAdd {x x' y y' : Value} (hx : VR F p x x') (hy : VR F p y y') (a b : Array TypeId) (t : TypeId) : SR P F (VR F) p (Builtin.unsafeAdd_ a t #[x, y]) (Builtin.unsafeAdd_ b t #[x', y']) := by
  unfold Builtin.unsafeAdd_
  cases hx with
  | pnil =>
    refine (sr_asInt hy).bind fun q hq n n' hn => ?_
    cases hn
    dsimp only
    repeat' split
    all_goals exact sr_unsup (fun g => by simp)
  | @ptr b c o s h =>
    refine (sr_asInt hy).bind fun q hq n n' hn => ?_
    cases hn
    dsimp only
    have key : ∀ {q2 : Ren P.globals.size}, q.le q2 → SR P F (VR F) q2 (do
        let some (e, cells) ← shape b | unsupported (.unsafePointer "Add")
        let p ← program
        match cellAtBytes p p.depth e (cells / p.cellsOf e) o n with
        | some off => pure (.pointer (some { block := b, off, spot := s }))
        | none => unsupported (.unsafePointer "Add")) (do
        let some (e, cells) ← shape c | unsupported (.unsafePointer "Add")
        let p ← program
        match cellAtBytes p p.depth e (cells / p.cellsOf e) o n with
        | some off => pure (.pointer (some { block := c, off, spot := s }))
        | none => unsupported (.unsafePointer "Add")) := by
      intro q2 hq2
      refine (sr_shape (hq2 _ _ (hq _ _ h))).bind fun q3 hq3 u u' hu => ?_
      cases hu
      cases u with
      | none => exact sr_unsup (fun g => by simp)
      | some e =>
        refine sr_program.bind fun q4 hq4 u v huv => ?_
        rw [huv.1, huv.2]
        split
        · exact sr_pure (.ptr (hq4 _ _ (hq3 _ _ (hq2 _ _ (hq _ _ h)))))
        · exact sr_unsup (fun g => by simp)
    split
    · refine (sr_viewAt (hq _ _ h)).bind fun q2 hq2 u u' hu => ?_
      rcases hu with ⟨rfl, rfl⟩ | ⟨_, _, _, rfl, rfl, _⟩
      · exact sr_pure (.ptr (hq2 _ _ (hq _ _ h)))
      · exact sr_unsup (fun g => by simp)
    · split
      · exact sr_unsup (fun g => by simp)
      · exact key (Ren.le_refl _)
  | _ => exact sr_stuck
theorem sr_byteOf {a b : Addr} (h : DR p a b) : SR P F Same p (byteOf a) (byteOf b) := by
  unfold byteOf
  obtain ⟨a1, a2, a3⟩ := a; obtain ⟨b1, b2, b3⟩ := b; obtain ⟨h1, h2, h3⟩ := h
  simp only at h1 h2 h3; subst h2 h3
  cases b3 with
  | some s => exact sr_pure rfl
  | none =>
    refine sr_program.bind fun q hq u v huv => ?_
    rw [huv.1, huv.2]
    refine (sr_noView (dr b2 none (hq _ _ h1))).bind fun q2 hq2 _ _ _ => ?_
    refine (sr_shape (hq2 _ _ (hq _ _ h1))).bind fun q3 hq3 u u' hu => ?_
    cases hu
    cases u with
    | none => exact sr_stuck
    | some e =>
      dsimp only
      split
      · exact sr_pure rfl
      · split
        · exact sr_pure rfl
        · exact sr_stuck
theorem sr_addrMod {a b : Addr} (h : DR p a b) (k : IntKind) (n : Int) : SR P F (VR F) p (Op.addrMod k a n) (Op.addrMod k b n) := by
  unfold Op.addrMod
  refine (sr_shape h.1).bind fun q3 hq3 u u' hu => ?_
  cases hu
  cases u with
  | none => exact sr_unsup (fun g => by simp)
  | some e =>
    refine (sr_typeInfo _).bind fun q hq u v huv => ?_
    obtain ⟨rfl, _⟩ := huv
    dsimp only
    split
    · exact sr_unsup (fun g => by simp)
    · refine (sr_byteOf ((h.le hq3).le hq)).bind fun q _ u v huv => ?_
      cases huv
      exact sr_pure (.int _ _)
theorem sr_twoPlaces {α β : Type} {A : Ren P.globals.size → α → β → Prop} {a a' b b' : Addr} (h : DR p a a') (_ : DR p b b') {f : Nat × Nat → Sem α} {f' : Nat × Nat → Sem β} : SR P F A p (Op.twoPlaces a b >>= f) (Op.twoPlaces a' b' >>= f') := by
  refine SR.bind (A := fun _ _ _ => False) ?_ fun _ _ _ _ h => h.elim
  unfold Op.twoPlaces
  refine sr_program.bind fun q hq u v huv => ?_
  rw [huv.1, huv.2]
  have l1 := (q.low _ _ (hq _ _ h.1)).1
  rw [if_pos (by simp; omega)]
  exact sr_unsup (fun g => by simp)
theorem sr_asNumber {a b : Addr} (h : DR p a b) (l : Bool) : SR P F (VR F) p (asNumber a l) (asNumber b l) := by
  unfold asNumber newObj
  refine SR.bind (A := fun q a b => q a = some b) (.new (.inr (.inr ⟨_, _, _, rfl, rfl, h⟩)) fun r s _ _ _ _ => .pure Ren.ext_at) fun q _ a b hab => ?_
  exact sr_pure (.ptr hab)
theorem sr_movedNumber {t : TypeId} {x x' y y' : Value} (hx : VR F p x x') (hy : VR F p y y') : SR P F (VR F) p (movedNumber t x y) (movedNumber t x' y') := by
  unfold movedNumber
  refine (sr_underlying t).bind fun q hq d d' hd => ?_
  obtain ⟨rfl, hu⟩ := hd
  dsimp only
  split
  · exact sr_unsup (fun g => by simp)
  · have hx0 := hx.le hq
    cases hx with
    | @ptr b c o s h =>
      refine (sr_behind (dr o s (hq _ _ h))).bind fun q2 hq2 u v hu => ?_
      obtain ⟨u1, u2⟩ := u; obtain ⟨v1, v2⟩ := v; obtain ⟨h1, h2⟩ := hu
      simp only at h1 h2; subst h2
      refine (sr_unsafeAdd (VR.ptr' h1) ((hy.le hq).le hq2) #[] #[] t).bind fun q3 hq3 w w' hw => ?_
      have hw0 := hw
      cases hw with
      | ptr g => exact sr_asNumber (dr _ _ g) _
      | _ => exact sr_pure hw0
    | _ => exact sr_unsafeAdd hx0 (hy.le hq) #[] #[] t
theorem sr_movedPointer {t : TypeId} {x x' y y' : Value} (hx : VR F p x x') (hy : VR F p y y') : SR P F (VR F) p (movedPointer t x y) (movedPointer t x' y') := by
  unfold movedPointer
  have hx0 := hx
  cases hx with
  | @ptr b c o s h =>
    refine (sr_numberAt h).bind fun q hq u v hu => ?_
    rcases hu with ⟨rfl, rfl⟩ | ⟨_, _, _, rfl, rfl, _⟩
    · exact sr_unsafeAdd (hx0.le hq) (hy.le hq) #[] #[] t
    · exact sr_unsup (fun g => by simp)
  | _ => first | exact sr_stuck | exact sr_unsafeAdd hx0 hy #[] #[] t
theorem sr_addPtr {t : TypeId} {x x' y y' : Value} (hx : VR F p x x') (hy : VR F p y y') : SR P F (VR F) p (do if (← underlying t) matches .unsafePointer then movedPointer t x y else movedNumber t x y : Sem Value) (do if (← underlying t) matches .unsafePointer then movedPointer t x' y' else movedNumber t x' y' : Sem Value) := by
  refine (sr_underlying t).bind fun q hq d d' hd => ?_
  obtain ⟨rfl, hu⟩ := hd
  split
  · exact sr_movedPointer (hx.le hq) (hy.le hq)
  · exact sr_movedNumber (hx.le hq) (hy.le hq)
theorem sr_addrSub {a a' b b' : Addr} (h : DR p a a') (g : DR p b b') : SR P F (VR F) p (do Op.addrSub .u64 (← behindNumber a).1 (← behindNumber b).1 : Sem Value) (do Op.addrSub .u64 (← behindNumber a').1 (← behindNumber b').1 : Sem Value) := by
  refine (sr_behind h).bind fun q hq u v hu => (sr_behind (g.le hq)).bind fun q2 hq2 w z hw => ?_
  unfold Op.addrSub
  exact sr_twoPlaces (hu.1.le hq2) hw.1
theorem sr_addrCmp (op : BinOp) {a a' b b' : Addr} (h : DR p a a') (g : DR p b b') : SR P F (VR F) p (do Op.addrCmp op (← behindNumber a).1 (← behindNumber b).1 : Sem Value) (do Op.addrCmp op (← behindNumber a').1 (← behindNumber b').1 : Sem Value) := by
  refine (sr_behind h).bind fun q hq u v hu => (sr_behind (g.le hq)).bind fun q2 hq2 w z hw => ?_
  unfold Op.addrCmp
  exact sr_twoPlaces (hu.1.le hq2) hw.1
theorem sr_addrMod2 {a a' : Addr} (h : DR p a a') (k : IntKind) (n : Int) : SR P F (VR F) p (do Op.addrMod k (← behindNumber a).1 n : Sem Value) (do Op.addrMod k (← behindNumber a').1 n : Sem Value) :=
  (sr_behind h).bind fun _ _ _ _ hu => sr_addrMod hu.1 k n
/-- Which binary operators are met here. -/
def okBin : BinOp → Bool
  | .xor | .andNot => false
  | _ => true
set_option maxHeartbeats 4000000 in
theorem sr_binOp {op : BinOp} {t : TypeId} (ho : okBin op = true) (ht : plainT P t = true) {x x' y y' : Value} (hx : VR F p x x') (hy : VR F p y y') : SR P F (VR F) p (binOp op t x y) (binOp op t x' y') := by
  have he : SR P F (VR F) p (do pure (.bool (← Op.equal t x y)) : Sem Value) (do pure (.bool (← Op.equal t x' y')) : Sem Value) := (sr_equal ht hx hy).bind fun q _ a b hab => by cases hab; exact sr_pure (.bool _)
  have hn : SR P F (VR F) p (do pure (.bool (!(← Op.equal t x y))) : Sem Value) (do pure (.bool (!(← Op.equal t x' y'))) : Sem Value) := (sr_equal ht hx hy).bind fun q _ a b hab => by cases hab; exact sr_pure (.bool _)
  have hx0 := hx
  have hy0 := hy
  cases op
  all_goals first | (cases ho; done) | skip
  all_goals cases hx
  all_goals cases hy
  all_goals first
    | exact he
    | exact hn
    | exact sr_stuck
    | exact sr_unsup (fun g => by simp)
    | exact sv_mono (ss_int _ _ _ _ _ _)
    | exact sv_mono (ss_string _ _ _ _)
    | exact sv_mono (ss_float _ _ _ _ _ _)
    | exact sv_mono (ss_complex _ _ _ _ _ _ _ _)
    | skip
  all_goals first
    | exact sr_addPtr hx0 hy0
    | exact sr_movedNumber hy0 hx0
    | exact sr_movedNumber hx0 (.int _ _)
    | exact sr_addrSub (dr _ _ (by assumption)) (dr _ _ (by assumption))
    | exact sr_addrCmp _ (dr _ _ (by assumption)) (dr _ _ (by assumption))
    | exact sr_addrMod2 (dr _ _ (by assumption)) _ _
    | skip
end
end Go.Proofs.Ytebgcemglicjiaa

/- Instructions in the two runs. No condition of ours. -/
namespace Go.Proofs.Ytebgcemglicjiaa
section
variable {P : Program} {F : Nat → Bool} {p : Ren P.globals.size}
/-- A struct's field that takes place. -/
def fieldOk (P : Program) (t : TypeId) (i : Nat) : Bool := match P.underlying t with
  | some (.struct fs) => match fs[i]? with
    | some f => match P.info? f.type with
      | some j => decide (j.size ≠ 0)
      | none => true
    | none => true
  | _ => true
theorem sr_fieldAt {t : TypeId} {i : Nat} (hf : fieldOk P t i = true) {x x' : Value} (hx : VR F p x x') : SR P F (VR F) p (Instr.fieldAt t x i) (Instr.fieldAt t x' i) := by
  unfold Instr.fieldAt
  refine (sr_underlying t).bind fun q hq d d' hd => ?_
  obtain ⟨rfl, hu⟩ := hd
  cases d with
  | struct fs =>
    cases hi : fs[i]? with
    | none => simp only [hi]; exact sr_stuck
    | some f =>
      simp only [hi]
      refine (sr_sureAddr (hx.le hq)).bind fun q2 hq2 a b hab => ?_
      unfold fieldPlace
      refine SR.bind (A := DR) ?_ fun q _ a b h => sr_pure (VR.ptr' h)
      refine (sr_sizeOf f.type).bind fun q3 hq3 n n' hn => ?_
      obtain ⟨rfl, j, hj, hn⟩ := hn
      unfold fieldOk at hf
      simp only [hu, hi, hj, decide_eq_true_eq] at hf
      rw [if_neg (by rw [← hn]; exact hf), if_neg (by rw [← hn]; exact hf)]
      exact sr_pure ((hab.le hq3).add _)
  | _ => exact sr_stuck
def idxTail (t : TypeId) (k : IntKind) (i : Int) (base : Option Addr) (len : Nat) (elem : TypeId) : Sem Value := do
  let tiny := len ≤ 1 && (match ← underlying t with | .array .. => true | _ => false)
  match base with
  | some a =>
    if 0 ≤ i ∧ i < len then pure (.pointer (some (a.add (i.toNat * (← sizeOf elem)))))
    else if tiny then unsupported (.noEntry "op/indexAddr.an index out of range at an array of length 0 or 1 (ledger 616)")
    else boundsPanic k i len .index
  | none => boundsPanic k i 0 .index
theorem sr_idxTail (t : TypeId) (k : IntKind) (i : Int) {b b' : Option Addr} (h : VR F p (.pointer b) (.pointer b')) (len : Nat) (elem : TypeId) : SR P F (VR F) p (idxTail t k i b len elem) (idxTail t k i b' len elem) := by
  unfold idxTail
  refine (sr_underlying t).bind fun q hq d d' hd => ?_
  obtain ⟨rfl, hu⟩ := hd
  dsimp only
  cases h with
  | pnil => exact sr_bounds
  | ptr h =>
    dsimp only
    split
    · refine (sr_sizeOf elem).bind fun q3 hq3 n n' hn => ?_
      obtain ⟨rfl, _⟩ := hn
      exact sr_pure (VR.ptr' ((dr _ _ (hq3 _ _ (hq _ _ h))).add _))
    · repeat' split
      all_goals first | exact sr_bounds | exact sr_unsup (fun g => by simp)
theorem sr_indexAt {t : TypeId} {x x' y y' : Value} (hx : VR F p x x') (hy : VR F p y y') : SR P F (VR F) p (Instr.indexAt t x y) (Instr.indexAt t x' y') := by
  unfold Instr.indexAt
  refine (sr_asIntOf hy).bind fun q hq a b hab => ?_
  cases hab
  refine (sr_underlying t).bind fun q2 hq2 d d' hd => ?_
  obtain ⟨rfl, hu⟩ := hd
  replace hx := (hx.le hq).le hq2
  cases d with
  | array n e =>
    refine (sr_sureAddr hx).bind fun q3 hq3 u v hu => ?_
    exact sr_idxTail t a.1 a.2 (VR.ptr' hu) n e
  | slice e => cases hx with
    | snil n c => exact sr_idxTail t a.1 a.2 .pnil n e
    | slice n c h => exact sr_idxTail t a.1 a.2 (.ptr h) n e
    | _ => exact sr_stuck.bind (A := fun _ _ _ => False) fun _ _ _ _ h => h.elim
  | _ => exact sr_stuck.bind (A := fun _ _ _ => False) fun _ _ _ _ h => h.elim
theorem sr_part' (t : TypeId) {c c' : Array Value} (h : AR F p c c') (off : Nat) : SR P F (VR F) p (part t c off) (part t c' off) := sr_part t h off
theorem sr_index {t : TypeId} {x x' y y' : Value} (hx : VR F p x x') (hy : VR F p y y') : SR P F (VR F) p (Instr.index t x y) (Instr.index t x' y') := by
  unfold Instr.index
  refine (sr_asIntOf hy).bind fun q hq a b hab => ?_
  cases hab
  refine (sr_underlying t).bind fun q2 hq2 d d' hd => ?_
  obtain ⟨rfl, hu⟩ := hd
  replace hx := (hx.le hq).le hq2
  cases d with
  | array n e => cases hx with
    | agg h1 h2 =>
      dsimp only
      split
      · refine (sr_sizeOf e).bind fun q3 hq3 n n' hn => ?_
        obtain ⟨rfl, _⟩ := hn
        exact sr_part e (AR.le ⟨h1, h2⟩ hq3) _
      · exact sr_bounds
    | _ => exact sr_stuck
  | string => cases hx with
    | string s =>
      dsimp only
      split
      · exact sr_pure (.int _ _)
      · exact sr_bounds
    | _ => exact sr_stuck
  | _ => exact sr_stuck
theorem sr_sliceBound {v v' : Value} (h : VR F p v v') (y : Nat) (c : BoundsCode) : SR P F Same p (Instr.sliceBound v y c) (Instr.sliceBound v' y c) := by
  unfold Instr.sliceBound
  refine (sr_asIntOf h).bind fun q hq a b hab => ?_
  cases hab
  dsimp only
  split
  · exact sr_pure rfl
  · exact sr_bounds
/-- Bounds that stand for one another. -/
def BR (F : Nat → Bool) (p : Ren P.globals.size) (o o' : Option Value) : Prop := (o = none ∧ o' = none) ∨ ∃ v v', o = some v ∧ o' = some v' ∧ VR F p v v'
theorem BR.le {q : Ren P.globals.size} {o o' : Option Value} (h : BR F p o o') (hl : p.le q) : BR F q o o' := by
  rcases h with h | ⟨v, v', h1, h2, h3⟩
  · exact .inl h
  · exact .inr ⟨v, v', h1, h2, h3.le hl⟩
theorem sr_sliceBounds {lo lo' hi hi' mx mx' : Option Value} (h1 : BR F p lo lo') (h2 : BR F p hi hi') (h3 : BR F p mx mx') (b : Bool) (n c : Nat) : SR P F Same p (Instr.sliceBounds b n c lo hi mx) (Instr.sliceBounds b n c lo' hi' mx') := by
  unfold Instr.sliceBounds
  have fin : ∀ (m h : Nat) {q : Ren P.globals.size}, p.le q → SR P F Same q (match (motive := Option Value → Sem (Nat × Nat × Nat)) lo with
      | some v => do let l ← Instr.sliceBound v h (if mx.isSome then .slice3C else .sliceB); pure (l, h, m)
      | none => do let l ← pure 0; pure (l, h, m)) (match (motive := Option Value → Sem (Nat × Nat × Nat)) lo' with
      | some v => do let l ← Instr.sliceBound v h (if mx'.isSome then .slice3C else .sliceB); pure (l, h, m)
      | none => do let l ← pure 0; pure (l, h, m)) := by
    intro m h q hq
    have e : mx.isSome = mx'.isSome := by rcases h3 with ⟨rfl, rfl⟩ | ⟨_, _, rfl, rfl, _⟩ <;> rfl
    rw [e]
    rcases h1 with ⟨rfl, rfl⟩ | ⟨v, v', rfl, rfl, hv⟩
    · exact sr_pure rfl
    · refine (sr_sliceBound (hv.le hq) _ _).bind fun q _ a b hab => ?_
      cases hab
      exact sr_pure rfl
  rcases h3 with ⟨rfl, rfl⟩ | ⟨v, v', rfl, rfl, hv⟩
  · rcases h2 with ⟨rfl, rfl⟩ | ⟨u, u', rfl, rfl, hu⟩
    · exact fin _ _ (Ren.le_refl _)
    · refine SR.bind (A := Same) (sr_pure rfl) fun q hq a b hab => ?_
      cases hab
      refine (sr_sliceBound (hu.le hq) _ _).bind fun q2 hq2 a b hab => ?_
      cases hab
      exact fin _ _ (Ren.le_trans hq hq2)
  · refine (sr_sliceBound hv _ _).bind fun q hq a b hab => ?_
    cases hab
    rcases h2 with ⟨rfl, rfl⟩ | ⟨u, u', rfl, rfl, hu⟩
    · exact sr_stuck.bind (A := Same) fun q2 hq2 a b hab => by cases hab; exact fin _ _ (Ren.le_trans hq hq2)
    · refine (sr_sliceBound (hu.le hq) _ _).bind fun q2 hq2 a b hab => ?_
      cases hab
      exact fin _ _ (Ren.le_trans hq hq2)
theorem sr_slice {t : TypeId} {x x' : Value} (hx : VR F p x x') {lo lo' hi hi' mx mx' : Option Value} (h1 : BR F p lo lo') (h2 : BR F p hi hi') (h3 : BR F p mx mx') : SR P F (VR F) p (Instr.slice t x lo hi mx) (Instr.slice t x' lo' hi' mx') := by
  unfold Instr.slice
  refine (sr_underlying t).bind fun q hq d d' hd => ?_
  obtain ⟨rfl, hu⟩ := hd
  have hx0 := hx.le hq
  replace h1 := h1.le hq
  replace h2 := h2.le hq
  replace h3 := h3.le hq
  cases d with
  | string => cases hx0 with
    | string s =>
      have e : mx.isSome = mx'.isSome := by rcases h3 with ⟨rfl, rfl⟩ | ⟨_, _, rfl, rfl, _⟩ <;> rfl
      dsimp only
      rw [e]
      split
      · exact sr_stuck.bind (A := fun _ _ _ => False) fun _ _ _ _ h => h.elim
      · refine (sr_sliceBounds h1 h2 (.inl ⟨rfl, rfl⟩) _ _ _).bind fun q2 _ a b hab => ?_
        cases hab
        exact sr_pure (.string _)
    | _ => exact sr_stuck
  | slice e => cases hx0 with
    | snil n c =>
      refine (sr_sliceBounds h1 h2 h3 _ _ _).bind fun q2 _ a b hab => ?_
      cases hab
      refine (sr_sizeOf e).bind fun q3 hq3 n n' hn => ?_
      obtain ⟨rfl, _⟩ := hn
      split <;> exact sr_pure (.snil _ _)
    | @slice b1 c1 o1 s1 n c h =>
      refine (sr_sliceBounds h1 h2 h3 _ _ _).bind fun q2 hq2 a b hab => ?_
      cases hab
      refine (sr_sizeOf e).bind fun q3 hq3 n n' hn => ?_
      obtain ⟨rfl, _⟩ := hn
      have hd := dr o1 s1 (hq3 _ _ (hq2 _ _ h))
      split
      · exact sr_pure (VR.slice' _ _ hd)
      · exact sr_pure (VR.slice' _ _ (hd.add _))
    | _ => exact sr_stuck
  | pointer arr =>
    refine (sr_asAddr hx0).bind fun q2 hq2 u v hu2 => ?_
    refine (sr_underlying arr).bind fun q3 hq3 d d' hd => ?_
    obtain ⟨rfl, _⟩ := hd
    cases d with
    | array n e =>
      refine (sr_sliceBounds ((h1.le hq2).le hq3) ((h2.le hq2).le hq3) ((h3.le hq2).le hq3) _ _ _).bind fun q4 hq4 a b hab => ?_
      cases hab
      refine (sr_sizeOf e).bind fun q5 hq5 n n' hn => ?_
      obtain ⟨rfl, _⟩ := hn
      have hd := ((hu2.le hq3).le hq4).le hq5
      split
      · exact sr_pure (VR.slice' _ _ hd)
      · exact sr_pure (VR.slice' _ _ (hd.add _))
    | _ => exact sr_stuck
  | _ => exact sr_stuck
theorem sr_sliceAt {t : TypeId} {x x' : Value} (hx : VR F p x x') {lo lo' hi hi' mx mx' : Option Value} (h1 : BR F p lo lo') (h2 : BR F p hi hi') (h3 : BR F p mx mx') : SR P F (VR F) p (Instr.sliceAt t x lo hi mx) (Instr.sliceAt t x' lo' hi' mx') := by
  unfold Instr.sliceAt
  refine (sr_underlying t).bind fun q hq d d' hd => ?_
  obtain ⟨rfl, hu⟩ := hd
  cases d with
  | array n e =>
    refine (sr_sureAddr (hx.le hq)).bind fun q2 hq2 u v hu2 => ?_
    refine (sr_sliceBounds ((h1.le hq).le hq2) ((h2.le hq).le hq2) ((h3.le hq).le hq2) _ _ _).bind fun q4 hq4 a b hab => ?_
    cases hab
    refine (sr_sizeOf e).bind fun q5 hq5 n n' hn => ?_
    obtain ⟨rfl, _⟩ := hn
    have hd := (hu2.le hq4).le hq5
    split
    · exact sr_pure (VR.slice' _ _ hd)
    · exact sr_pure (VR.slice' _ _ (hd.add _))
  | _ => exact sr_slice (hx.le hq) (h1.le hq) (h2.le hq) (h3.le hq)
theorem sr_mark (m : Mark) (h : Meek m = true) : SR P F (fun _ _ _ => True) p (mark m) (mark m) := .mark h (.pure trivial)
theorem sr_askRoom (n : Nat) : SR P F (fun _ _ _ => True) p (askRoom n) (askRoom n) := by
  unfold askRoom
  split
  · exact sr_mark _ rfl
  · exact sr_pure trivial
/-- A slice type whose element's zero tells of no address. -/
def elemOk (P : Program) (t : TypeId) : Bool := match P.underlying t with
  | some (.slice e) => zeroOk P e
  | _ => true
theorem AR.zeros {z z' : Array Value} (h : AR F p z z') (n : Nat) : AR F p ((Array.range n).map (fun i => z[i % z.size]!)) ((Array.range n).map (fun i => z'[i % z'.size]!)) := by
  refine AR.map _ fun i => ?_
  rw [h.1, Array.getElem!_eq_getD, Array.getElem!_eq_getD]
  exact h.getD _ (.bool false)
end
end Go.Proofs.Ytebgcemglicjiaa

/- Memory made, and conversions, in the two runs. No condition of ours. -/
namespace Go.Proofs.Ytebgcemglicjiaa
section
variable {P : Program} {F : Nat → Bool} {p : Ren P.globals.size}
theorem sr_rtb {α β γ : Type} {A : Ren P.globals.size → β → γ → Prop} {e : RuntimeError} (he : match e with | .typeAssertion .. => False | .panicNil => False | _ => True) {f : α → Sem β} {s' : Sem γ} : SR P F A p (runtimePanic e >>= f) s' := .doom fun w => by
  obtain ⟨hh, wz, h1, h2⟩ := doom_rt (α := α) (P := P) e he w
  exact ⟨hh, wz, h1, by rw [Sem.run_bind, h2]; rfl⟩
theorem sr_stb {α β γ : Type} {A : Ren P.globals.size → β → γ → Prop} {why : String} {f : α → Sem β} {s' : Sem γ} : SR P F A p (stuck why >>= f) s' := .doom fun w => ⟨.stuck why, w, trivial, rfl⟩
theorem sr_unb {α β γ : Type} {A : Ren P.globals.size → β → γ → Prop} {u : Unsupported} (hu : ∀ g, u ≠ .initOrder g) {f : α → Sem β} {s' : Sem γ} : SR P F A p (unsupported u >>= f) s' := .doom fun w => ⟨.unsupported u, w, by cases u <;> first | exact trivial | exact absurd rfl (hu _), rfl⟩
theorem sr_zeros {e : TypeId} (h : zeroOk P e = true) (n : Nat) : SR P F (AR F) p (do if n = 0 then pure #[] else do pure (← zeroValue e).cells : Sem (Array Value)) (do if n = 0 then pure #[] else do pure (← zeroValue e).cells : Sem (Array Value)) := by
  split
  · exact sr_pure AR.empty
  · exact (sr_zero h).bind fun q _ a b hab => sr_pure hab.2
theorem sr_makeSlice {t : TypeId} (ht : elemOk P t = true) {l l' c c' : Value} (hl : VR F p l l') (hc : VR F p c c') : SR P F (VR F) p (Instr.makeSlice t l c) (Instr.makeSlice t l' c') := by
  unfold Instr.makeSlice
  refine (sr_underlying t).bind fun q hq d d' hd => ?_
  obtain ⟨rfl, hu⟩ := hd
  cases d with
  | slice e =>
    have hz : zeroOk P e = true := by unfold elemOk at ht; rw [hu] at ht; exact ht
    refine (sr_asInt (hl.le hq)).bind fun q2 hq2 a b hab => ?_
    cases hab
    refine (sr_asInt ((hc.le hq).le hq2)).bind fun q3 hq3 b b' hab => ?_
    cases hab
    refine (sr_typeInfo e).bind fun q4 hq4 i i' hi => ?_
    obtain ⟨rfl, _⟩ := hi
    dsimp only
    have fin : ∀ (n k l c : Nat) {q : Ren P.globals.size}, SR P F (VR F) q (do
        askRoom k
        let s ← sizeOf e
        let zero ← (if n * s = 0 then pure #[] else do pure (← zeroValue e).cells : Sem (Array Value))
        let a ← newRow e ((Array.range (n * s)).map (fun i => zero[i % zero.size]!))
        pure (Value.slice (some a) l c)) (do
        askRoom k
        let s ← sizeOf e
        let zero ← (if n * s = 0 then pure #[] else do pure (← zeroValue e).cells : Sem (Array Value))
        let a ← newRow e ((Array.range (n * s)).map (fun i => zero[i % zero.size]!))
        pure (Value.slice (some a) l c)) := by
      intro n k l c q
      refine (sr_askRoom k).bind fun q _ _ _ _ => (sr_sizeOf e).bind fun q _ s s' hs => ?_
      obtain ⟨rfl, _⟩ := hs
      refine (sr_zeros hz _).bind fun q _ z z' hzz => (sr_newRow e (hzz.zeros _)).bind fun q _ a b hab => sr_pure (VR.slice' _ _ hab)
    have fin2 : ∀ (n k l c : Nat) {q : Ren P.globals.size}, SR P F (VR F) q (do
        askRoom k
        let s ← sizeOf e
        if n * s = 0 then do
          let zero ← pure #[]
          let a ← newRow e ((Array.range (n * s)).map (fun i => zero[i % zero.size]!))
          pure (Value.slice (some a) l c)
        else do
          let z ← zeroValue e
          let zero ← pure z.cells
          let a ← newRow e ((Array.range (n * s)).map (fun i => zero[i % zero.size]!))
          pure (Value.slice (some a) l c)) (do
        askRoom k
        let s ← sizeOf e
        if n * s = 0 then do
          let zero ← pure #[]
          let a ← newRow e ((Array.range (n * s)).map (fun i => zero[i % zero.size]!))
          pure (Value.slice (some a) l c)
        else do
          let z ← zeroValue e
          let zero ← pure z.cells
          let a ← newRow e ((Array.range (n * s)).map (fun i => zero[i % zero.size]!))
          pure (Value.slice (some a) l c)) := by
      intro n k l c q
      refine (sr_askRoom k).bind fun q _ _ _ _ => (sr_sizeOf e).bind fun q _ s s' hs => ?_
      obtain ⟨rfl, _⟩ := hs
      split
      · exact (sr_newRow e (AR.empty.zeros _)).bind fun q _ a b hab => sr_pure (VR.slice' _ _ hab)
      · exact (sr_zero hz).bind fun q _ z z' hzz => (sr_newRow e (hzz.2.zeros _)).bind fun q _ a b hab => sr_pure (VR.slice' _ _ hab)
    split
    · split
      · exact sr_rtb trivial
      · split
        · exact sr_rtb trivial
        · exact sq (sq_choose _) fun q _ a => sr_rtb trivial
    · exact fin2 _ _ _ _
  | _ => exact sr_stuck
theorem sr_alloc {t : TypeId} (ht : zeroOk P t = true) : SR P F (VR F) p (Instr.alloc t true (.tuple #[])) (Instr.alloc t true (.tuple #[])) := by
  unfold Instr.alloc
  refine (sr_zero ht).bind fun q _ z z' hz => ?_
  exact (sr_newVar t hz.1).bind fun q _ a b hab => sr_pure (VR.ptr' hab)
theorem sr_box (t : TypeId) {v v' : Value} (hv : VR F p v v') : SR P F (VR F) p (Instr.box t v) (Instr.box t v') := by
  unfold Instr.box
  exact (sr_newVar t hv).bind fun q _ a b hab => sr_pure (VR.ptr' hab)
theorem sr_extract {v v' : Value} (hv : VR F p v v') (i : Nat) : SR P F (VR F) p (Instr.extract v i) (Instr.extract v' i) := by
  unfold Instr.extract
  cases hv with
  | tuple h1 h2 =>
    rcases AR.get? (F := F) (p := p) ⟨h1, h2⟩ i with ⟨e1, e2⟩ | ⟨x, y, e1, e2, e3⟩
    · simp only [e1]; exact sr_stuck
    · simp only [e1, e2]; exact sr_pure e3
  | _ => exact sr_stuck
theorem sr_iface (t : TypeId) {v v' : Value} (hv : VR F p v v') : SR P F (VR F) p (Instr.makeInterface t v) (Instr.makeInterface t v') := by
  unfold Instr.makeInterface
  refine (sr_underlying t).bind fun q hq d d' hd => ?_
  obtain ⟨rfl, _⟩ := hd
  cases d <;> first | exact sr_stuck | exact sr_pure (.iface _ (hv.le hq))
theorem sr_unary (op : UnOp) {v v' : Value} (hv : VR F p v v') : SR P F (VR F) p (Op.unary op v) (Op.unary op v') := by
  have hv0 := hv
  cases op <;> cases hv
  all_goals first
    | exact sr_stuck
    | exact sr_unsup (fun g => by simp)
    | exact sr_pure (by constructor)
    | exact sv_mono (ss_int .sub 0 _ _ _ _)
    | exact sv_mono (ss_int .xor 0 _ _ _ _)
theorem setAll_rel : ∀ (l l' : List Value) (k off : Nat) {c c' : Array Value}, l.length = l'.length → (∀ (j : Nat) x y, l[j]? = some x → l'[j]? = some y → VR F p x y) → AR F p c c' →
    AR F p ((l.zipIdx k).foldl (fun (cs : Array Value) (x : Value × Nat) => cs.setIfInBounds (off + x.2) x.1) c) ((l'.zipIdx k).foldl (fun (cs : Array Value) (x : Value × Nat) => cs.setIfInBounds (off + x.2) x.1) c') := by
  intro l
  induction l with
  | nil => intro l' k off c c' hl _ h; cases l' with
    | nil => exact h
    | cons y l' => cases hl
  | cons x l ih => intro l' k off c c' hl hx h; cases l' with
    | nil => cases hl
    | cons y l' =>
      rw [List.zipIdx_cons, List.zipIdx_cons, List.foldl_cons, List.foldl_cons]
      exact ih l' (k + 1) off (by simpa using hl) (fun j u v h1 h2 => hx (j + 1) u v (by simpa using h1) (by simpa using h2)) (h.set _ (hx 0 x y rfl rfl))
/-- Parts that stand for one another. -/
inductive PR (F : Nat → Bool) (p : Ren P.globals.size) : List (Nat × Value) → List (Nat × Value) → Prop
  | nil : PR F p [] []
  | cons {i : Nat} {v v' : Value} {l l' : List (Nat × Value)} : VR F p v v' → PR F p l l' → PR F p ((i, v) :: l) ((i, v') :: l')
theorem PR.le {q : Ren P.globals.size} {l l' : List (Nat × Value)} (h : PR F p l l') (hl : p.le q) : PR F q l l' := by
  induction h with
  | nil => exact .nil
  | cons hv _ ih => exact .cons (hv.le hl) ih
theorem fill_rel (place : Nat → Option (Nat × Nat)) {l l' : List (Nat × Value)} (h : PR F p l l') : ∀ {c c' : Array Value}, AR F p c c' → (Instr.fill place c l = none ∧ Instr.fill place c' l' = none) ∨ ∃ d d', Instr.fill place c l = some d ∧ Instr.fill place c' l' = some d' ∧ AR F p d d' := by
  induction h with
  | nil => intro c c' hc; exact .inr ⟨c, c', rfl, rfl, hc⟩
  | @cons i v v' l l' hv _ ih =>
    intro c c' hc
    unfold Instr.fill
    cases place i with
    | none => exact .inl ⟨rfl, rfl⟩
    | some os =>
      obtain ⟨off, size⟩ := os
      dsimp only
      rw [← hv.cells.1, ← hc.1]
      split
      · exact .inl ⟨rfl, rfl⟩
      · refine ih ?_
        have hl := AR.list hv.cells
        have := setAll_rel (F := F) (p := p) v.cells.toList v'.cells.toList 0 off hl.1 hl.2 hc
        rw [← Array.foldl_toList, ← Array.foldl_toList, Array.toList_zipIdx, Array.toList_zipIdx]
        exact this
theorem sr_places (fs : Array Field) : SR P F Same p (fs.mapM fun f => do pure (f.offset, ← sizeOf f.type) : Sem (Array (Nat × Nat))) (fs.mapM fun f => do pure (f.offset, ← sizeOf f.type) : Sem (Array (Nat × Nat))) := by
  rw [Array.mapM_eq_mapM_toList]
  have key : ∀ (l : List Field) {p : Ren P.globals.size}, SR P F Same p (l.mapM fun f => do pure (f.offset, ← sizeOf f.type) : Sem (List (Nat × Nat))) (l.mapM fun f => do pure (f.offset, ← sizeOf f.type) : Sem (List (Nat × Nat))) := by
    intro l
    induction l with
    | nil => intro p; rw [List.mapM_nil]; exact sr_pure rfl
    | cons f l ih =>
      intro p
      rw [List.mapM_cons]
      refine SR.bind (A := Same) ?_ fun q _ a b hab => ?_
      · refine (sr_sizeOf f.type).bind fun q3 hq3 s s' hs => ?_
        obtain ⟨rfl, _⟩ := hs
        exact sr_pure rfl
      · cases hab
        exact sq ih fun q _ a => sr_pure rfl
  exact sq (key fs.toList) fun q _ a => sr_pure rfl
theorem sr_build {t : TypeId} (ht : zeroOk P t = true) {l l' : Array (Nat × Value)} (h : PR F p l.toList l'.toList) : SR P F (VR F) p (Instr.build t l) (Instr.build t l') := by
  unfold Instr.build
  refine (sr_zero ht).bind fun q hq z z' hz => ?_
  refine (sr_underlying t).bind fun q2 hq2 d d' hd => ?_
  obtain ⟨rfl, hu⟩ := hd
  have hc := hz.2.le hq2
  have hp := (h.le hq).le hq2
  cases d with
  | struct fs =>
    refine (sr_places fs).bind fun q3 hq3 a b hab => ?_
    cases hab
    rcases fill_rel (a[·]?) (hp.le hq3) (hc.le hq3) with ⟨e1, e2⟩ | ⟨x, y, e1, e2, e3⟩
    · simp only [e1]; exact sr_stuck
    · simp only [e1, e2]; exact sr_pure (.agg e3.1 e3.2)
  | array n e =>
    refine (sr_sizeOf e).bind fun q3 hq3 s s' hs => ?_
    obtain ⟨rfl, _⟩ := hs
    rcases fill_rel (fun i => some (i * s, s)) (hp.le hq3) (hc.le hq3) with ⟨e1, e2⟩ | ⟨x, y, e1, e2, e3⟩
    · simp only [e1]; exact sr_stuck
    · simp only [e1, e2]; exact sr_pure (.agg e3.1 e3.2)
  | _ => exact sr_stuck
theorem sr_buildSlice {t : TypeId} (ht : elemOk P t = true) (n : Nat) {l l' : Array (Nat × Value)} (h : PR F p l.toList l'.toList) : SR P F (VR F) p (Instr.buildSlice t n l) (Instr.buildSlice t n l') := by
  unfold Instr.buildSlice
  refine (sr_underlying t).bind fun q hq d d' hd => ?_
  obtain ⟨rfl, hu⟩ := hd
  cases d with
  | slice e =>
    have hz : zeroOk P e = true := by unfold elemOk at ht; rw [hu] at ht; exact ht
    refine (sr_sizeOf e).bind fun q2 hq2 s s' hs => ?_
    obtain ⟨rfl, _⟩ := hs
    dsimp only
    have fin : ∀ {q : Ren P.globals.size}, q2.le q → PR F q l.toList l'.toList := fun hq3 => ((h.le hq).le hq2).le hq3
    split
    · exact sr_unb (fun g => by simp)
    · split
      · refine SR.bind (A := AR F) (sr_pure AR.empty) fun q3 hq3 z z' hzz => ?_
        rcases fill_rel (fun i => some (i * s, s)) (fin hq3) (hzz.zeros (n * s)) with ⟨e1, e2⟩ | ⟨x, y, e1, e2, e3⟩
        · simp only [e1]; exact sr_stuck
        · simp only [e1, e2]
          exact (sr_newRow e e3).bind fun q _ a b hab => sr_pure (VR.slice' _ _ hab)
      · refine (sr_zero hz).bind fun q3 hq3 z z' hzz => ?_
        refine SR.bind (A := AR F) (sr_pure hzz.2) fun q4 hq4 z z' hzz => ?_
        rcases fill_rel (fun i => some (i * s, s)) (fin (Ren.le_trans hq3 hq4)) (hzz.zeros (n * s)) with ⟨e1, e2⟩ | ⟨x, y, e1, e2, e3⟩
        · simp only [e1]; exact sr_stuck
        · simp only [e1, e2]
          exact (sr_newRow e e3).bind fun q _ a b hab => sr_pure (VR.slice' _ _ hab)
  | _ => exact sr_stuck
end
end Go.Proofs.Ytebgcemglicjiaa

/- Conversions in the two runs. No condition of ours. -/
namespace Go.Proofs.Ytebgcemglicjiaa
section
variable {P : Program} {F : Nat → Bool} {p : Ren P.globals.size}
theorem sr_newObj {o o' : Obj} (h : OR F p o o') : SR P F (fun q a b => q a = some b) p (newObj o) (newObj o') := .new h fun _ _ _ _ _ _ => .pure Ren.ext_at
theorem sr_cellsIn {r s : Nat} (h : p r = some s) : SR P F Same p (cellsIn r) (cellsIn s) := by
  unfold cellsIn
  refine (sr_shape h).bind fun q hq a b hab => ?_
  cases hab
  cases a with
  | some x => exact sr_pure rfl
  | none => exact .getObj (hq _ _ h) (fun a a' t ha => sr_pure rfl) (fun a a' l ha => sr_pure rfl)
theorem sr_variablesAt {a b : Addr} (h : DR p a b) (u : TypeId) (n : Nat) : SR P F Same p (variablesAt a u n) (variablesAt b u n) := by
  unfold variablesAt
  refine sr_program.bind fun q hq x y hxy => ?_
  rw [hxy.1, hxy.2]
  refine (sr_shape (hq _ _ h.1)).bind fun q hq a b hab => ?_
  cases hab
  cases a with
  | some x => rw [h.2.1]; exact sr_pure rfl
  | none => exact sr_pure rfl
theorem sr_seenAt {a b : Addr} (h : DR p a b) : SR P F DR p (Conv.seenAt a) (Conv.seenAt b) := by
  unfold Conv.seenAt
  refine (sr_viewAt h.1).bind fun q hq x y hxy => ?_
  rcases hxy with ⟨rfl, rfl⟩ | ⟨u, u', t, rfl, rfl, hu⟩
  · exact sr_pure (h.le hq)
  · obtain ⟨a1, a2, a3⟩ := a; obtain ⟨b1, b2, b3⟩ := b; obtain ⟨h1, h2, h3⟩ := h
    simp only at h1 h2 h3; subst h2 h3
    obtain ⟨u1, u2, u3⟩ := u; obtain ⟨v1, v2, v3⟩ := u'; obtain ⟨g1, g2, g3⟩ := hu
    simp only at g1 g2 g3; subst g2 g3
    dsimp only
    split
    · exact sr_pure (dr _ _ g1)
    · split
      · exact sr_unb (fun g => by simp)
      · refine sr_program.bind fun q2 hq2 x y hxy => ?_
        rw [hxy.1, hxy.2]
        split
        · refine (sr_shape (hq2 _ _ g1)).bind fun q3 hq3 x y hxy => ?_
          cases hxy
          cases x with
          | none => exact sr_unsup (fun g => by simp)
          | some e =>
            dsimp only
            split
            · exact sr_unb (fun g => by simp)
            · split
              · exact sr_pure (dr _ _ (hq3 _ _ (hq2 _ _ g1)))
              · exact sr_unsup (fun g => by simp)
        · exact sr_unsup (fun g => by simp)
theorem sr_toUnsafe {src dst t : TypeId} (h1 : P.underlying src = some (.pointer t)) (h2 : P.underlying dst = some .unsafePointer) {x x' : Value} (hx : VR F p x x') : SR P F (VR F) p (Conv.unsafePointer src dst x) (Conv.unsafePointer src dst x') := by
  unfold Conv.unsafePointer
  refine (sr_underlying src).bind fun q hq d d' hd => ?_
  obtain ⟨rfl, hu⟩ := hd
  rw [h1] at hu; cases hu
  refine (sr_underlying dst).bind fun q2 hq2 d d' hd => ?_
  obtain ⟨rfl, hu⟩ := hd
  rw [h2] at hu; cases hu
  replace hx := (hx.le hq).le hq2
  cases hx with
  | pnil => exact sr_pure .pnil
  | @ptr b c o s h =>
    refine (sr_seenAt (dr o s h)).bind fun q3 hq3 a b hab => ?_
    refine (sr_cellsIn hab.1).bind fun q4 hq4 n n' hn => ?_
    cases hn
    refine (sr_sizeOf t).bind fun q5 hq5 k k' hk => ?_
    obtain ⟨rfl, _⟩ := hk
    rw [hab.2.1, hab.2.2]
    have hd := (hab.le hq4).le hq5
    have fin : ∀ c : Bool, SR P F (VR F) q5 (if c = true then do pure (.pointer (some ⟨← newObj (.view a t), 0, none⟩)) else pure (.pointer (some a)) : Sem Value) (if c = true then do pure (.pointer (some ⟨← newObj (.view b t), 0, none⟩)) else pure (.pointer (some b)) : Sem Value) := by
      intro c
      cases c with
      | true => exact (sr_newObj (.inr (.inl ⟨_, _, _, rfl, rfl, hd⟩))).bind fun q _ a b hab => sr_pure (.ptr hab)
      | false => exact sr_pure (VR.ptr' hd)
    cases n <;> exact fin _
  | _ => exact sr_stuck
theorem sr_fromUnsafe {src dst u : TypeId} (h1 : P.underlying src = some .unsafePointer) (h2 : P.underlying dst = some (.pointer u)) {x x' : Value} (hx : VR F p x x') : SR P F (VR F) p (Conv.unsafePointer src dst x) (Conv.unsafePointer src dst x') := by
  unfold Conv.unsafePointer
  refine (sr_underlying src).bind fun q hq d d' hd => ?_
  obtain ⟨rfl, hu⟩ := hd
  rw [h1] at hu; cases hu
  refine (sr_underlying dst).bind fun q2 hq2 d d' hd => ?_
  obtain ⟨rfl, hu⟩ := hd
  rw [h2] at hu; cases hu
  replace hx := (hx.le hq).le hq2
  cases hx with
  | pnil => exact sr_pure .pnil
  | @ptr b c o s h =>
    refine (sr_seenAt (dr o s h)).bind fun q3 hq3 a b hab => ?_
    refine (sr_sizeOf u).bind fun q5 hq5 k k' hk => ?_
    obtain ⟨rfl, _⟩ := hk
    refine (sr_variablesAt (hab.le hq5) u 1).bind fun q6 hq6 k2 k' hk => ?_
    cases hk
    have hd := (hab.le hq5).le hq6
    split
    · exact sr_pure (VR.ptr' hd)
    · refine (sr_shape hd.1).bind fun q7 hq7 x y hxy => ?_
      cases hxy
      cases x with
      | none => exact sr_unb (fun g => by simp)
      | some e =>
        refine sr_program.bind fun q8 hq8 x y hxy => ?_
        rw [hxy.1, hxy.2]
        refine sr_program.bind fun q9 hq9 x y hxy => ?_
        rw [hxy.1, hxy.2]
        split
        · exact sr_unb (fun g => by simp)
        · exact (sr_newObj (.inr (.inl ⟨_, _, _, rfl, rfl, ((hd.le hq7).le hq8).le hq9⟩))).bind fun q _ a b hab => sr_pure (.ptr hab)
  | _ => exact sr_stuck
theorem sr_floatToInt (s : FloatKind) (b : Nat) (k : IntKind) : SR P F SameV p (Conv.floatToInt s b k) (Conv.floatToInt s b k) := by
  unfold Conv.floatToInt
  dsimp only
  split
  · split
    · exact sr_pure ⟨rfl, rfl⟩
    · exact sq (sq_choose _) fun q _ a => sr_pure ⟨rfl, rfl⟩
  · exact sq (sq_choose _) fun q _ a => sr_pure ⟨rfl, rfl⟩
theorem sq' {α β γ : Type} {B : Ren P.globals.size → β → γ → Prop} {s s' : Sem α} {f : α → Sem β} {f' : α → Sem γ} (h : SR P F Same p s s') (hf : ∀ q : Ren P.globals.size, p.le q → ∀ a, SR P F B q (f a) (f' a)) : SR P F B p (s >>= f) (s' >>= f') :=
  h.bind fun q hq a b hab => by cases hab; exact hf q hq a
theorem sr_forBytes : ∀ (l l' : List Value) {p : Ren P.globals.size} (s : ByteArray), l.length = l'.length → (∀ (j : Nat) x y, l[j]? = some x → l'[j]? = some y → VR F p x y) →
    SR P F Same p (forIn l s (fun c (s : ByteArray) => match c with | .int .u8 n => pure (.yield (s.push (UInt8.ofNat n.toNat))) | _ => do stuck "bytesToString: byte expected"; pure (.yield s) : Value → ByteArray → Sem (ForInStep ByteArray))) (forIn l' s (fun c (s : ByteArray) => match c with | .int .u8 n => pure (.yield (s.push (UInt8.ofNat n.toNat))) | _ => do stuck "bytesToString: byte expected"; pure (.yield s) : Value → ByteArray → Sem (ForInStep ByteArray))) := by
  intro l
  induction l with
  | nil => intro l' p s hl _; cases l' with
    | nil => exact sr_pure rfl
    | cons y l' => cases hl
  | cons x l ih => intro l' p s hl hx; cases l' with
    | nil => cases hl
    | cons y l' =>
      rw [List.forIn_cons, List.forIn_cons]
      have hxy := hx 0 x y rfl rfl
      cases hxy with
      | int k n => cases k with
        | u8 =>
          exact ih l' _ (by simpa using hl) fun j u v h1 h2 => hx (j + 1) u v (by simpa using h1) (by simpa using h2)
        | _ => exact sr_stb
      | _ => exact sr_stb
theorem sr_bytesToString {x x' : Value} (hx : VR F p x x') : SR P F (VR F) p (Conv.bytesToString x) (Conv.bytesToString x') := by
  unfold Conv.bytesToString
  cases hx with
  | snil n c => exact sr_pure (.string _)
  | @slice b c o s n m h =>
    refine (sr_loadCells (dr o s h) n).bind fun q hq a b hab => ?_
    rw [← Array.forIn_toList, ← Array.forIn_toList]
    have hl := AR.list hab
    exact sq' (sr_forBytes a.toList b.toList _ hl.1 hl.2) fun q _ s => sr_pure (.string _)
  | _ => exact sr_stuck
/-- Which conversions are met here. -/
def okConv (P : Program) (src dst : TypeId) : Bool := match P.underlying src, P.underlying dst with
  | some (.int _), some (.int _) => true
  | some (.slice e), some .string => match P.underlying e with
    | some (.int .u8) => true
    | _ => false
  | some (.pointer _), some .unsafePointer => true
  | some .unsafePointer, some (.pointer _) => true
  | _, _ => false
theorem sr_convert {src dst : TypeId} (h : okConv P src dst = true) {x x' : Value} (hx : VR F p x x') : SR P F (VR F) p (convert src dst x) (convert src dst x') := by
  unfold convert
  refine (sr_underlying src).bind fun q hq d d' hd => ?_
  obtain ⟨rfl, hu⟩ := hd
  refine (sr_underlying dst).bind fun q2 hq2 e e' he => ?_
  obtain ⟨rfl, hv⟩ := he
  unfold okConv at h
  rw [hu, hv] at h
  have hx0 := (hx.le hq).le hq2
  have hx1 := hx0
  cases d with
  | int k => cases e with
    | int k2 => cases hx0 with
      | int k3 n => exact sr_pure (.int _ _)
      | float k3 n => exact sv_mono (sr_floatToInt _ _ _)
      | _ => exact sr_unsup (fun g => by simp)
    | _ => cases h
  | slice e2 => cases e with
    | string =>
      have fin : SR P F (VR F) q2 (do match ← underlying e2 with | .int .u8 => Conv.bytesToString x | .int .i32 => Conv.runesToString x | _ => stuck "Convert: a slice of what to string?" : Sem Value) (do match ← underlying e2 with | .int .u8 => Conv.bytesToString x' | .int .i32 => Conv.runesToString x' | _ => stuck "Convert: a slice of what to string?" : Sem Value) := by
        refine (sr_underlying e2).bind fun q3 hq3 d d' hd => ?_
        obtain ⟨rfl, hw⟩ := hd
        simp only [hw] at h
        split at h
        · rename_i e; cases e; exact sr_bytesToString (hx1.le hq3)
        · cases h
      cases hx0
      all_goals first
        | exact fin
        | exact sr_pure (.string _)
        | exact sr_unsup (fun g => by simp)
    | _ => cases h
  | pointer t => cases e with
    | unsafePointer => cases hx0 <;> first | exact sr_toUnsafe hu hv hx1 | exact sr_unsup (fun g => by simp)
    | _ => cases h
  | unsafePointer => cases e with
    | pointer t => cases hx0 <;> first | exact sr_fromUnsafe hu hv hx1 | exact sr_unsup (fun g => by simp)
    | _ => cases h
  | _ => cases h
end
end Go.Proofs.Ytebgcemglicjiaa

/- Builtins in the two runs. No condition of ours. -/
namespace Go.Proofs.Ytebgcemglicjiaa
section
variable {P : Program} {F : Nat → Bool} {p : Ren P.globals.size}
theorem sr_lenOf {x x' : Value} (h : VR F p x x') : SR P F Same p (Builtin.lenOf x) (Builtin.lenOf x') := by
  cases h <;> first | exact sr_pure rfl | exact sr_stuck
theorem sr_firstCells (size n : Nat) {x x' : Value} (h : VR F p x x') : SR P F (AR F) p (Builtin.firstCells size n x) (Builtin.firstCells size n x') := by
  cases h with
  | snil => exact sr_pure AR.empty
  | slice n m h => exact sr_loadCells (dr _ _ h) _
  | string s => exact sr_pure (AR.map _ fun x => .int _ _)
  | _ => exact sr_stuck
theorem sr_holds {a b : Addr} (h : DR p a b) (n : Nat) : SR P F Same p (Builtin.holdsCells a n) (Builtin.holdsCells b n) := by
  unfold Builtin.holdsCells
  refine (sr_shape h.1).bind fun q hq x y hxy => ?_
  cases hxy
  cases x with
  | none => exact sr_pure rfl
  | some e => rw [h.2.1, h.2.2]; exact sr_pure rfl
theorem AR.zeroCells {z z' : Array Value} (h : AR F p z z') (n : Nat) : AR F p (Builtin.zeroCells z n) (Builtin.zeroCells z' n) := by
  unfold Builtin.zeroCells
  rw [← h.1]
  refine AR.map _ fun i => ?_
  rw [Array.getElem!_eq_getD, Array.getElem!_eq_getD]
  exact h.getD _ (.bool false)
/-- append's arguments met here: a slice, or a string's bytes, behind a slice whose element's zero tells of no address. -/
def okApp (P : Program) (ts : Array TypeId) : Bool := match ts[0]? with
  | some t => match P.underlying t with
    | some (.slice e) => zeroOk P e && match ts[1]? with
      | some u => match P.underlying u with
        | some (.int _) => false
        | _ => true
      | none => true
    | _ => true
  | none => true
def shareTail (size n : Nat) (base : Option Addr) (x : Value) (there : Bool) : Sem Bool :=
  if (!there) = true then pure true
  else match x with
    | .slice (some b) _ _ => do pure (!(← Builtin.holdsCells b (n * size)) || base.any (·.block == b.block))
    | _ => pure false
theorem sr_shareTail (size n : Nat) {b b' : Option Addr} {x x' : Value} (hb : VR F p (.pointer b) (.pointer b')) (hx : VR F p x x') (there : Bool) : SR P F Same p (shareTail size n b x there) (shareTail size n b' x' there) := by
  unfold shareTail
  split
  · exact sr_pure rfl
  · cases hx with
    | slice _ _ h =>
      refine (sr_holds (dr _ _ h) _).bind fun q2 hq2 a c hac => ?_
      cases hac
      have hb0 := hb.le hq2
      cases hb0 with
      | pnil => exact sr_pure rfl
      | ptr g =>
        have := (dr (p := q2) 0 none g).blocks (dr 0 none (hq2 _ _ h))
        simp only at this
        simp only [Option.any, this]
        exact sr_pure rfl
    | _ => exact sr_pure rfl
theorem sr_mayShare (size sLen n : Nat) {b b' : Option Addr} {x x' : Value} (hb : VR F p (.pointer b) (.pointer b')) (hx : VR F p x x') : SR P F Same p (Builtin.mayShare size sLen n b x) (Builtin.mayShare size sLen n b' x') := by
  unfold Builtin.mayShare
  cases hb with
  | pnil => exact sr_shareTail size n .pnil hx true
  | ptr h =>
    refine (sr_holds (dr _ _ h) _).bind fun q hq a c hac => ?_
    cases hac
    refine (sr_frozen ((dr _ _ (hq _ _ h)).add _)).bind fun q2 hq2 a c hac => ?_
    cases hac
    refine SR.bind (A := Same) (sr_pure rfl) fun q3 hq3 a b hab => ?_
    cases hab
    exact sr_shareTail size n (.ptr (hq3 _ _ (hq2 _ _ (hq _ _ h)))) (((hx.le hq).le hq2).le hq3) a
def appGrow (elem : TypeId) (sLen sCap : Nat) (s x : Value) (size n : Nat) : Sem Value := do
  let newCap ← choose (.appendCap (sLen + n) sCap elem)
  askRoom (newCap * (← typeInfo elem).bytes)
  let old ← Builtin.firstCells size sLen s
  let new ← Builtin.firstCells size n x
  let rest := Builtin.zeroCells (← zeroValue elem).cells (newCap - (sLen + n))
  pure (.slice (some (← newRow elem (old ++ new ++ rest))) (sLen + n) newCap)
theorem sr_appGrow {e : TypeId} (hz : zeroOk P e = true) (sLen sCap size n : Nat) {s s' x x' : Value} (hs : VR F p s s') (hx : VR F p x x') : SR P F (VR F) p (appGrow e sLen sCap s x size n) (appGrow e sLen sCap s' x' size n) := by
  unfold appGrow
  refine sq (sq_choose _) fun q hq c => (sr_typeInfo e).bind fun q2 hq2 i i' hi => ?_
  obtain ⟨rfl, _⟩ := hi
  refine (sr_askRoom _).bind fun q3 hq3 _ _ _ => (sr_firstCells size sLen (((hs.le hq).le hq2).le hq3)).bind fun q4 hq4 o o' ho => (sr_firstCells size n ((((hx.le hq).le hq2).le hq3).le hq4)).bind fun q5 hq5 m m' hm => (sr_zero hz).bind fun q6 hq6 z z' hzz => ?_
  exact (sr_newRow e ((((ho.le hq5).le hq6).append (hm.le hq6)).append (hzz.2.zeroCells _))).bind fun q _ a b hab => sr_pure (VR.slice' _ _ hab)
def appRest (elem : TypeId) (base : Option Addr) (sLen sCap : Nat) (s x : Value) (size n : Nat) : Sem Value :=
  if sLen + n ≤ sCap then do
    let new ← Builtin.firstCells size n x
    if let some a := base then storeCells (a.add (sLen * size)) new.toList
    pure (.slice base (sLen + n) sCap)
  else do
    if ((sLen + n : Nat) : Int) > IntKind.i64.max ∧ (false = true ∨ (← typeInfo elem).bytes = 0) then runtimePanic (.error "growslice: len out of range")
    if Builtin.nextslicecap (sLen + n) sCap * (← typeInfo elem).bytes > 2 ^ 48 then (if false = true then runtimePanic (.error "growslice: len out of range") else do
      if !(← Builtin.mayShare size sLen n base x) then mark .noRoom
      unsupported (.resourceLimit "append: a slice or a string whose bytes no memory bears"))
    appGrow elem sLen sCap s x size n
theorem sr_appRest {e : TypeId} (hz : zeroOk P e = true) (sLen sCap size n : Nat) {b b' : Option Addr} {s s' x x' : Value} (hb : VR F p (.slice b sLen sCap) (.slice b' sLen sCap)) (hs : VR F p s s') (hx : VR F p x x') : SR P F (VR F) p (appRest e b sLen sCap s x size n) (appRest e b' sLen sCap s' x' size n) := by
  unfold appRest
  split
  · refine (sr_firstCells size n hx).bind fun q hq c c' hc => ?_
    have hl := AR.list hc
    have hb0 := hb.le hq
    cases hb0 with
    | snil => exact sr_pure (.snil _ _)
    | slice _ _ h => exact (sr_storeCells _ _ 0 ((dr _ _ h).add _) hl.1 hl.2).bind fun q2 hq2 _ _ _ => sr_pure (.slice _ _ (hq2 _ _ h))
  · refine (sr_typeInfo e).bind fun q hq i i' hi => ?_
    obtain ⟨rfl, _⟩ := hi
    dsimp only
    have gr : ∀ {q2 : Ren P.globals.size}, q.le q2 → SR P F (VR F) q2 (appGrow e sLen sCap s x size n) (appGrow e sLen sCap s' x' size n) := fun hq2 => sr_appGrow hz _ _ _ _ ((hs.le hq).le hq2) ((hx.le hq).le hq2)
    have hb2 : VR F q (.pointer b) (.pointer b') := by
      have := hb.le hq
      cases this with
      | snil => exact .pnil
      | slice _ _ h => exact .ptr h
    split
    · exact sr_rtb trivial
    · refine (sr_typeInfo e).bind fun q2 hq2 i i' hi => ?_
      obtain ⟨rfl, _⟩ := hi
      split
      · split
        · exact sr_rtb trivial
        · refine (SR.bind (A := fun _ _ _ => False) (α := PUnit) (β := PUnit) ?_ fun _ _ _ _ h => h.elim)
          refine (sr_mayShare size sLen n (hb2.le hq2) ((hx.le hq).le hq2)).bind fun q3 hq3 a c hac => ?_
          cases hac
          split
          · exact (sr_mark _ rfl).bind fun q _ _ _ _ => sr_unsup (fun g => by simp)
          · exact sr_unsup (fun g => by simp)
      · exact gr hq2
theorem sr_append {ts : Array TypeId} (ho : okApp P ts = true) (t : TypeId) {xs ys : Array Value} (h : AR F p xs ys) : SR P F (VR F) p (Builtin.append_ ts t xs) (Builtin.append_ ts t ys) := by
  unfold Builtin.append_
  rcases h.get? 0 with ⟨a1, a2⟩ | ⟨x, x', a1, a2, hx⟩
  · rw [a1]
    cases ts[0]? <;> exact sr_stuck
  · rcases h.get? 1 with ⟨b1, b2⟩ | ⟨y, y', b1, b2, hy⟩
    · rw [a1, b1]
      cases ts[0]? <;> exact sr_stuck
    · rw [a1, a2, b1, b2]
      cases ht : ts[0]? with
      | none => exact sr_stuck
      | some t0 =>
        refine (sr_underlying t0).bind fun q hq d d' hd => ?_
        obtain ⟨rfl, hu⟩ := hd
        cases d with
        | slice e =>
          have hz : zeroOk P e = true := by unfold okApp at ho; simp only [ht, hu, Bool.and_eq_true] at ho; exact ho.1
          have hn : ∀ u k, ts[1]? = some u → P.underlying u ≠ some (.int k) := by
            intro u k h1 h2
            unfold okApp at ho; simp only [ht, hu, h1, h2, Bool.and_eq_true] at ho; exact absurd ho.2 (by simp)
          have hx1 := hx.le hq
          have hx2 := hx1
          have fin : ∀ {b b' : Option Addr} {n c : Nat}, VR F q (.slice b n c) (.slice b' n c) → VR F q x x' → ∀ {q3 : Ren P.globals.size}, q.le q3 → ∀ s : Nat, SR P F (VR F) q3 (do let m ← Builtin.lenOf y; appRest e b n c x y s m) (do let m ← Builtin.lenOf y'; appRest e b' n c x' y' s m) := by
            intro b b' n c hb hxx q3 hq3 s
            refine (sr_lenOf ((hy.le hq).le hq3)).bind fun q4 hq4 m m' hm => ?_
            cases hm
            exact sr_appRest hz n c s m ((hb.le hq3).le hq4) ((hxx.le hq3).le hq4) (((hy.le hq).le hq3).le hq4)
          cases hx1 with
          | snil n c =>
            refine (sr_sizeOf e).bind fun q2 hq2 s s' hs => ?_
            obtain ⟨rfl, _⟩ := hs
            cases hts : ts[1]? with
            | none => exact fin (.snil _ _) hx2 hq2 s
            | some u =>
              refine (sr_underlying u).bind fun q3 hq3 d d' hd => ?_
              obtain ⟨rfl, hw⟩ := hd
              cases d with
              | int k => exact absurd hw (hn u k hts)
              | _ => exact fin (.snil _ _) hx2 (Ren.le_trans hq2 hq3) s
          | slice n c h =>
            refine (sr_sizeOf e).bind fun q2 hq2 s s' hs => ?_
            obtain ⟨rfl, _⟩ := hs
            cases hts : ts[1]? with
            | none => exact fin (.slice _ _ h) hx2 hq2 s
            | some u =>
              refine (sr_underlying u).bind fun q3 hq3 d d' hd => ?_
              obtain ⟨rfl, hw⟩ := hd
              cases d with
              | int k => exact absurd hw (hn u k hts)
              | _ => exact fin (.slice _ _ h) hx2 (Ren.le_trans hq2 hq3) s
          | _ => exact sr_stuck
        | _ => exact sr_stuck
end
end Go.Proofs.Ytebgcemglicjiaa

/- More builtins in the two runs. No condition of ours. -/
namespace Go.Proofs.Ytebgcemglicjiaa
section
variable {P : Program} {F : Nat → Bool} {p : Ren P.globals.size}
theorem sr_copy (ts : Array TypeId) (t : TypeId) {xs ys : Array Value} (h : AR F p xs ys) : SR P F (VR F) p (Builtin.copy_ ts t xs) (Builtin.copy_ ts t ys) := by
  unfold Builtin.copy_
  rcases h.get? 0 with ⟨a1, a2⟩ | ⟨x, x', a1, a2, hx⟩
  · rw [a1]
    cases ts[0]? <;> exact sr_stuck
  · rcases h.get? 1 with ⟨b1, b2⟩ | ⟨y, y', b1, b2, hy⟩
    · rw [a1, b1]
      cases ts[0]? <;> exact sr_stuck
    · rw [a1, a2, b1, b2]
      cases ht : ts[0]? with
      | none => exact sr_stuck
      | some t0 =>
        refine (sr_underlying t0).bind fun q hq d d' hd => ?_
        obtain ⟨rfl, hu⟩ := hd
        cases d with
        | slice e =>
          have hx1 := hx.le hq
          cases hx1 with
          | snil n c =>
            refine (sr_lenOf (hy.le hq)).bind fun q2 hq2 m m' hm => ?_
            cases hm
            refine (sr_sizeOf e).bind fun q3 hq3 s s' hs => ?_
            obtain ⟨rfl, _⟩ := hs
            refine (sr_firstCells s _ (((hy.le hq).le hq2).le hq3)).bind fun q4 hq4 c c' hc => ?_
            exact sr_pure (.int _ _)
          | slice n c h =>
            refine (sr_lenOf (hy.le hq)).bind fun q2 hq2 m m' hm => ?_
            cases hm
            refine (sr_sizeOf e).bind fun q3 hq3 s s' hs => ?_
            obtain ⟨rfl, _⟩ := hs
            refine (sr_firstCells s _ (((hy.le hq).le hq2).le hq3)).bind fun q4 hq4 c c' hc => ?_
            have hl := AR.list hc
            exact (sr_storeCells _ _ 0 (dr _ _ (hq4 _ _ (hq3 _ _ (hq2 _ _ h)))) hl.1 hl.2).bind fun q5 hq5 _ _ _ => sr_pure (.int _ _)
          | _ => exact sr_stuck
        | _ => exact sr_stuck
/-- The lengths met here: of strings and slices. -/
def okLenB (P : Program) (ts : Array TypeId) : Bool := match ts[0]? with
  | some t => match P.underlying t with
    | some .string | some (.slice _) | some (.array _ _) | none => true
    | _ => false
  | none => true
theorem sr_len {ts : Array TypeId} (ho : okLenB P ts = true) (t : TypeId) {xs ys : Array Value} (h : AR F p xs ys) : SR P F (VR F) p (Builtin.len_ ts t xs) (Builtin.len_ ts t ys) := by
  unfold Builtin.len_
  rcases h.get? 0 with ⟨a1, a2⟩ | ⟨x, x', a1, a2, hx⟩
  · rw [a1]
    cases ts[0]? <;> exact sr_stuck
  · rw [a1, a2]
    cases ht : ts[0]? with
    | none => exact sr_stuck
    | some t0 =>
      refine (sr_underlying t0).bind fun q hq d d' hd => ?_
      obtain ⟨rfl, hu⟩ := hd
      unfold okLenB at ho
      simp only [ht, hu] at ho
      cases d <;> first | (cases ho; done) | exact sr_pure (.int _ _) | (cases hx <;> first | exact sr_pure (.int _ _) | exact sr_stuck)
theorem sr_cap {ts : Array TypeId} (ho : okLenB P ts = true) (t : TypeId) {xs ys : Array Value} (h : AR F p xs ys) : SR P F (VR F) p (Builtin.cap_ ts t xs) (Builtin.cap_ ts t ys) := by
  unfold Builtin.cap_
  rcases h.get? 0 with ⟨a1, a2⟩ | ⟨x, x', a1, a2, hx⟩
  · rw [a1]
    cases ts[0]? <;> exact sr_stuck
  · rw [a1, a2]
    cases ht : ts[0]? with
    | none => exact sr_stuck
    | some t0 =>
      refine (sr_underlying t0).bind fun q hq d d' hd => ?_
      obtain ⟨rfl, hu⟩ := hd
      unfold okLenB at ho
      simp only [ht, hu] at ho
      cases d <;> first | (cases ho; done) | exact sr_pure (.int _ _) | (cases hx <;> first | exact sr_pure (.int _ _) | exact sr_stuck)
theorem sr_min2 {x x' y y' : Value} (hx : VR F p x x') (hy : VR F p y y') : SR P F (VR F) p (Builtin.min2 x y) (Builtin.min2 x' y') := by
  cases hx <;> cases hy
  all_goals first
    | exact sr_stuck
    | exact sr_unsup (fun g => by simp)
    | exact sr_pure (.int _ _)
    | (unfold Builtin.min2; dsimp only; split <;> first | exact sr_pure (.float _ _) | exact sq (sq_choose _) fun q _ a => sr_pure (.float _ _))
    | skip
  rename_i a b
  unfold Builtin.min2
  refine (ss_string .leq 0 a b).bind fun q _ u v hu => ?_
  obtain ⟨rfl, hu⟩ := hu
  refine (sr_asBool (VR.flat hu)).bind fun q _ u v hu => ?_
  cases hu
  exact sr_pure (.string _)
theorem sr_max2 {x x' y y' : Value} (hx : VR F p x x') (hy : VR F p y y') : SR P F (VR F) p (Builtin.max2 x y) (Builtin.max2 x' y') := by
  cases hx <;> cases hy
  all_goals first
    | exact sr_stuck
    | exact sr_unsup (fun g => by simp)
    | exact sr_pure (.int _ _)
    | (unfold Builtin.max2; dsimp only; split <;> first | exact sr_pure (.float _ _) | exact sq (sq_choose _) fun q _ a => sr_pure (.float _ _))
    | skip
  rename_i a b
  unfold Builtin.max2
  refine (ss_string .geq 0 a b).bind fun q _ u v hu => ?_
  obtain ⟨rfl, hu⟩ := hu
  refine (sr_asBool (VR.flat hu)).bind fun q _ u v hu => ?_
  cases hu
  exact sr_pure (.string _)
theorem sr_foldV {f : Value → Value → Sem Value} (hf : ∀ {q : Ren P.globals.size} {x x' y y' : Value}, VR F q x x' → VR F q y y' → SR P F (VR F) q (f x y) (f x' y')) : ∀ (l l' : List Value) {p : Ren P.globals.size} {x x' : Value}, l.length = l'.length → (∀ (j : Nat) x y, l[j]? = some x → l'[j]? = some y → VR F p x y) → VR F p x x' → SR P F (VR F) p (l.foldlM f x) (l'.foldlM f x') := by
  intro l
  induction l with
  | nil => intro l' p x x' hl _ hx; cases l' with
    | nil => exact sr_pure hx
    | cons y l' => cases hl
  | cons u l ih => intro l' p x x' hl hx h; cases l' with
    | nil => cases hl
    | cons y l' =>
      rw [List.foldlM_cons, List.foldlM_cons]
      exact (hf h (hx 0 u y rfl rfl)).bind fun q hq a b hab => ih l' (by simpa using hl) (fun j u v h1 h2 => (hx (j + 1) u v (by simpa using h1) (by simpa using h2)).le hq) hab
theorem sr_min (ts : Array TypeId) (t : TypeId) {xs ys : Array Value} (h : AR F p xs ys) : SR P F (VR F) p (Builtin.min_ ts t xs) (Builtin.min_ ts t ys) := by
  unfold Builtin.min_
  have hl := AR.list h
  cases hx : xs.toList with
  | nil => exact sr_stuck
  | cons x l => cases hy : ys.toList with
    | nil => rw [hx, hy] at hl; cases hl.1
    | cons y l' =>
      rw [hx, hy] at hl
      exact sr_foldV (fun h1 h2 => sr_min2 h1 h2) l l' (by simpa using hl.1) (fun j u v h1 h2 => hl.2 (j + 1) u v (by simpa using h1) (by simpa using h2)) (hl.2 0 x y rfl rfl)
theorem sr_max (ts : Array TypeId) (t : TypeId) {xs ys : Array Value} (h : AR F p xs ys) : SR P F (VR F) p (Builtin.max_ ts t xs) (Builtin.max_ ts t ys) := by
  unfold Builtin.max_
  have hl := AR.list h
  cases hx : xs.toList with
  | nil => exact sr_stuck
  | cons x l => cases hy : ys.toList with
    | nil => rw [hx, hy] at hl; cases hl.1
    | cons y l' =>
      rw [hx, hy] at hl
      exact sr_foldV (fun h1 h2 => sr_max2 h1 h2) l l' (by simpa using hl.1) (fun j u v h1 h2 => hl.2 (j + 1) u v (by simpa using h1) (by simpa using h2)) (hl.2 0 x y rfl rfl)
theorem AR.one {x : Value} {ys : Array Value} (h : AR F p #[x] ys) : ∃ y, ys = #[y] ∧ VR F p x y := by
  obtain ⟨l⟩ := ys
  have hs := h.1
  simp at hs
  match l, hs with
  | [y], _ => exact ⟨y, rfl, h.2 0 (by simp) (by simp)⟩
theorem AR.two {x z : Value} {ys : Array Value} (h : AR F p #[x, z] ys) : ∃ y w, ys = #[y, w] ∧ VR F p x y ∧ VR F p z w := by
  obtain ⟨l⟩ := ys
  have hs := h.1
  simp at hs
  match l, hs with
  | [y, w], _ => exact ⟨y, w, rfl, h.2 0 (by simp) (by simp), h.2 1 (by simp) (by simp)⟩
theorem sr_elemOf (t : TypeId) : SR P F Same p (elemOf t) (elemOf t) := by
  unfold elemOf
  refine (sr_underlying t).bind fun q hq d d' hd => ?_
  obtain ⟨rfl, hu⟩ := hd
  cases d <;> first | exact sr_pure rfl | exact sr_stuck
def sdTail (t : TypeId) (a : Addr) (c : Nat) : Sem Value :=
  if c ≠ 0 then pure (.pointer (some a))
  else do
    if (← viewAt a.block).isSome then pure (.pointer (some a))
    else pure (.pointer (some ⟨← newObj (.view a (← elemOf t)), 0, none⟩))
theorem sr_sdTail (t : TypeId) (c : Nat) {a b : Addr} (hd : DR p a b) : SR P F (VR F) p (sdTail t a c) (sdTail t b c) := by
  unfold sdTail
  split
  · exact sr_pure (VR.ptr' hd)
  · refine (sr_viewAt hd.1).bind fun q hq u v hu => ?_
    rcases hu with ⟨rfl, rfl⟩ | ⟨_, _, _, rfl, rfl, _⟩
    · refine (sr_elemOf t).bind fun q2 hq2 u v hu => ?_
      cases hu
      exact (sr_newObj (.inr (.inl ⟨_, _, _, rfl, rfl, (hd.le hq).le hq2⟩))).bind fun q _ a b hab => sr_pure (.ptr hab)
    · exact sr_pure (VR.ptr' (hd.le hq))
theorem sr_sliceData (ts : Array TypeId) (t : TypeId) {xs ys : Array Value} (h : AR F p xs ys) : SR P F (VR F) p (Builtin.unsafeSliceData_ ts t xs) (Builtin.unsafeSliceData_ ts t ys) := by
  unfold Builtin.unsafeSliceData_
  obtain ⟨l⟩ := xs
  match l, h with
  | [], h => exact sr_stuck
  | _ :: _ :: _, h => exact sr_stuck
  | [x], h =>
    obtain ⟨y, rfl, hy⟩ := h.one
    cases hy with
    | snil n c => exact sr_pure .pnil
    | @slice b1 c1 o1 s1 n c h1 =>
      exact sr_sdTail t c (dr o1 s1 h1)
    | _ => exact sr_stuck
theorem sr_loadBytes (n : Nat) : ∀ {p : Ren P.globals.size} {a b : Addr} (s : ByteArray), DR p a b → SR P F Same p (loadBytes a s n) (loadBytes b s n) := by
  induction n with
  | zero => intro p a b s h; exact sr_pure rfl
  | succ n ih =>
    intro p a b s h
    unfold loadBytes
    refine (sr_load h).bind fun q hq u v hu => ?_
    cases hu with
    | int k m => cases k with
      | u8 => exact ih _ ((h.le hq).add 1)
      | _ => exact sr_stuck
    | _ => exact sr_stuck
theorem sr_unsafeString (ts : Array TypeId) (t : TypeId) {xs ys : Array Value} (h : AR F p xs ys) : SR P F (VR F) p (Builtin.unsafeString_ ts t xs) (Builtin.unsafeString_ ts t ys) := by
  unfold Builtin.unsafeString_
  obtain ⟨l⟩ := xs
  match l, h with
  | [], h => exact sr_stuck
  | [_], h => exact sr_stuck
  | _ :: _ :: _ :: _, h => exact sr_stuck
  | [x, z], h =>
    obtain ⟨y, w, rfl, hy, hw⟩ := h.two
    cases hy with
    | pnil =>
      refine (sr_asInt hw).bind fun q hq n n' hn => ?_
      cases hn
      cases ts[0]? with
      | none => exact sr_stuck
      | some pt =>
        dsimp only
        split
        · exact sr_rtb trivial
        · split
          · exact sr_unb (fun g => by simp)
          · split
            · exact sr_pure (.string _)
            · exact sr_rt (e := .error _) trivial
    | @ptr b1 c1 o1 s1 h1 =>
      have hd := dr o1 s1 h1
      refine (sr_asInt hw).bind fun q hq n n' hn => ?_
      cases hn
      cases ts[0]? with
      | none => exact sr_stuck
      | some pt =>
        dsimp only
        split
        · exact sr_rtb trivial
        · split
          · exact sr_unb (fun g => by simp)
          · split
            · exact sr_pure (.string _)
            · refine (sr_elemOf pt).bind fun q2 hq2 u v hu => ?_
              cases hu
              have hd2 := (hd.le hq).le hq2
              refine (sr_variablesAt hd2 u _).bind fun q3 hq3 u v hu => ?_
              cases hu
              split
              · refine (sr_loadBytes _ _ (hd2.le hq3)).bind fun q4 hq4 u v hu => ?_
                cases hu
                exact (sr_freeze ((hd2.le hq3).le hq4) _).bind fun q5 _ _ _ _ => sr_pure (.string _)
              · exact sr_unsup (fun g => by simp)
    | _ => exact sr_stuck
end
end Go.Proofs.Ytebgcemglicjiaa

namespace Go.Proofs.Ytebgcemglicjiaa
/-- Operands that name nothing of the program's own memory. -/
def okX (F : Nat → Bool) : Operand → Bool
  | .tmp _ => true
  | .const v => plainV v
  | .global _ => false
  | .func f => F f
def okXs (F : Nat → Bool) (xs : Array Operand) : Bool := xs.all (okX F)
def okXo (F : Nat → Bool) : Option Operand → Bool
  | some x => okX F x
  | none => true
def okBuiltin (P : Program) (b : Builtin) (ts : Array TypeId) : Bool := match b with
  | .append => okApp P ts
  | .len | .cap => okLenB P ts
  | .copy | .min | .max | .unsafeSliceData | .unsafeString => true
  | _ => false
/-- Operations whose meaning is the same in the two runs. -/
def okOp (P : Program) (F : Nat → Bool) : Op → Bool
  | .move x | .assign x => okX F x
  | .pick c a b => okX F c && okX F a && okX F b
  | .alloc t => zeroOk P t
  | .box _ x => okX F x
  | .build t ps => zeroOk P t && ps.all fun x => okX F x.2
  | .buildSlice t _ ps => elemOk P t && ps.all fun x => okX F x.2
  | .load _ x | .nilCheck x | .extract x _ | .makeInterface _ x | .unOp _ _ x => okX F x
  | .store _ a x => okX F a && okX F x
  | .binOp op t x y _ => okX F x && okX F y && okBin op && plainT P t
  | .convert s d x => okX F x && okConv P s d
  | .makeFunc fn first captured => (match fn with | .func f => F f | _ => false) && okXs F first && okXs F captured
  | .makeSlice t l c => elemOk P t && okX F l && okX F c
  | .slice _ x lo hi mx => okX F x && okXo F lo && okXo F hi && okXo F mx
  | .fieldAddr t x i => okX F x && fieldOk P t i
  | .indexAddr _ x y | .index _ x y => okX F x && okX F y
  | .panic x => okX F x
  | .call c => okXs F c.args && match c.callee with
    | .value f => okX F f
    | .builtin b => okBuiltin P b c.argTypes
    | .invoke _ _ => false
  | _ => false
/-- What an operation has come to, in the two runs. -/
inductive NR {N : Nat} (F : Nat → Bool) (p : Ren N) : Next → Next → Prop
  | value {v v' : Value} : VR F p v v' → NR F p (.value v) (.value v')
  | skip : NR F p .skip .skip
  | enter {f : FuncId} {xs ys : Array Value} : F f = true → AR F p xs ys → NR F p (.enter f xs) (.enter f ys)
/-- Functions whose bodies lie elsewhere: what they do is the same in the two runs. -/
def okExtern (P : Program) (F : Nat → Bool) (fn : Func) : Prop :=
  Extern.findNext fn = none ∧ match Extern.find fn with
    | some e => ∀ (p : Ren P.globals.size) (xs ys : Array Value), AR F p xs ys → SR P F (VR F) p (e xs) (e ys)
    | none => True
/-- Every function that may be named is there, and either has a body or is such a one. -/
def okFuncs (P : Program) (F : Nat → Bool) : Prop := ∀ f, F f = true → ∃ fn, P.funcs[f]? = some fn ∧ (fn.name == "runtime.NumGoroutine") = false ∧ (fn.body = none → okExtern P F fn)
section
variable {P : Program} {F : Nat → Bool} {p : Ren P.globals.size}
theorem sr_v {s s' : Sem Value} (h : SR P F (VR F) p s s') : SR P F (NR F) p (do pure (.value (← s)) : Sem Next) (do pure (.value (← s')) : Sem Next) := h.bind fun _ _ _ _ hab => sr_pure (.value hab)
theorem sr_u {s s' : Sem Unit} (h : SR P F (fun _ _ _ => True) p s s') : SR P F (NR F) p (do s; pure .skip : Sem Next) (do s'; pure .skip : Sem Next) := h.bind fun _ _ _ _ _ => sr_pure .skip
theorem sr_callFunc (hF : okFuncs P F) {f : FuncId} (hf : F f = true) {xs ys : Array Value} (h : AR F p xs ys) : SR P F (NR F) p (callFunc f xs) (callFunc f ys) := by
  unfold callFunc
  obtain ⟨fn, h1, h2, h3⟩ := hF f hf
  refine sr_program.bind fun q hq u v huv => ?_
  rw [huv.1, huv.2, h1]
  simp only [h2, Bool.false_eq_true, if_false]
  cases hb : fn.body with
  | some c => exact sr_pure (.enter hf (h.le hq))
  | none =>
    obtain ⟨h4, h5⟩ := h3 hb
    refine (sr_mark (.extern f) rfl).bind fun q2 hq2 _ _ _ => ?_
    simp only [h4]
    cases he : Extern.find fn with
    | some e =>
      rw [he] at h5
      exact (h5 q2 xs ys ((h.le hq).le hq2)).bind fun q3 _ a b hab => sr_pure (.value hab)
    | none =>
      dsimp only
      split
      · exact sr_pure (.value VR.undef)
      · exact sr_unsup (fun g => by simp)
theorem okXs_at {xs : Array Operand} (h : okXs F xs = true) {i : Nat} (hi : i < xs.size) : okX F xs[i] = true := by
  unfold okXs at h; rw [Array.all_eq_true] at h; exact h i hi
/-- What the two frames read. -/
def ER (F : Nat → Bool) (p : Ren P.globals.size) (e e' : Operand → Value) : Prop := ∀ x, okX F x = true → VR F p (e x) (e' x)
theorem ER.map {e e' : Operand → Value} (h : ER F p e e') {xs : Array Operand} (hx : okXs F xs = true) : AR F p (xs.map e) (xs.map e') :=
  ⟨by simp, fun i a b => by rw [Array.getElem_map, Array.getElem_map]; exact h _ (okXs_at hx (by simpa using a))⟩
theorem ER.opt {e e' : Operand → Value} (h : ER F p e e') {o : Option Operand} (ho : okXo F o = true) : BR F p (o.map e) (o.map e') := by
  cases o with
  | none => exact .inl ⟨rfl, rfl⟩
  | some x => exact .inr ⟨_, _, rfl, rfl, h x ho⟩
theorem ER.parts {e e' : Operand → Value} (h : ER F p e e') {ps : Array (Nat × Operand)} (hp : (ps.all fun x => okX F x.2) = true) : PR F p (ps.map fun (i, x) => (i, e x)).toList (ps.map fun (i, x) => (i, e' x)).toList := by
  obtain ⟨l⟩ := ps
  simp only [List.map_toArray]
  rw [List.all_toArray] at hp
  induction l with
  | nil => exact .nil
  | cons x l ih =>
    simp only [List.all_cons, Bool.and_eq_true] at hp
    exact .cons (h _ hp.1) (ih hp.2)
theorem sr_nilCheck {v v' : Value} (h : VR F p v v') : SR P F (NR F) p (match v with
    | .pointer none | .nilIface | .nilFunc => runtimePanic .nilDeref
    | .func (.method name) first captured =>
      match (first[0]? : Option Value) with
      | some .nilIface => runtimePanic .nilDeref
      | some (.iface t w) => do
        if (← nilAhead ((← program).types.size + Made.depth) t w name) != some false then
          unsupported (.noEntry "op/nilCheck.the method's receiver behind this interface value is a nil pointer, or cannot be seen to be none, and the arguments act or may panic (ledger 612)")
        pure (.value (.func (.method name) first captured))
      | _ => pure (.value (.func (.method name) first captured))
    | x => pure (.value x)) (match v' with
    | .pointer none | .nilIface | .nilFunc => runtimePanic .nilDeref
    | .func (.method name) first captured =>
      match (first[0]? : Option Value) with
      | some .nilIface => runtimePanic .nilDeref
      | some (.iface t w) => do
        if (← nilAhead ((← program).types.size + Made.depth) t w name) != some false then
          unsupported (.noEntry "op/nilCheck.the method's receiver behind this interface value is a nil pointer, or cannot be seen to be none, and the arguments act or may panic (ledger 612)")
        pure (.value (.func (.method name) first captured))
      | _ => pure (.value (.func (.method name) first captured))
    | x => pure (.value x)) := by
  have h0 := h
  cases h <;> first | exact sr_rt (e := .nilDeref) trivial | exact sr_pure (.value h0)
theorem doom_panicNil {α : Type} (w : World) : ∃ hh wz, Bad hh ∧ (runtimePanic .panicNil : Sem α).run P w = .halt hh wz := by
  unfold runtimePanic
  simp only [program, Sem.run_bind, Sem.run, Result.andThen_ok]
  unfold elemOf underlying
  simp only [program, Sem.run_bind, Sem.run, Result.andThen_ok]
  cases hu : P.underlying P.rt.panicNilError with
  | none => exact ⟨.stuck _, _, trivial, rfl⟩
  | some d =>
    cases d <;> first | exact ⟨.stuck _, _, trivial, rfl⟩ | exact ⟨.panic _, _, trivial, rfl⟩
theorem doom_panicOp (w : World) : ∃ hh wz, Bad hh ∧ (Instr.panic .nilIface).run P w = .halt hh wz := by
  unfold Instr.panic
  simp only [Sem.run_bind]
  have key : (∃ a w1, Instr.panicnil.run P w = .ok a w1) ∨ ∃ s wz, Instr.panicnil.run P w = .halt (.stuck s) wz := by
    unfold Instr.panicnil
    simp only [sys, Sem.run_bind, Sem.run, Result.andThen_ok]
    cases (w.sys .env).1 <;> first | exact .inr ⟨_, _, rfl⟩ | exact .inl ⟨_, _, rfl⟩
  rcases key with ⟨a, w1, h⟩ | ⟨s, wz, h⟩
  · rw [h]
    simp only [Result.andThen_ok]
    split
    · exact ⟨.panic _, _, trivial, rfl⟩
    · exact doom_panicNil w1
  · rw [h]; exact ⟨.stuck s, wz, trivial, rfl⟩
theorem sr_panicOp {v v' : Value} (h : VR F p v v') : SR P F (VR F) p (Instr.panic v) (Instr.panic v') := by
  unfold Instr.panic
  cases h with
  | iface t h => exact sr_panic
  | nilIface => exact .doom fun w => doom_panicOp w
  | _ => exact sr_stuck
theorem sr_builtin {b : Builtin} {ts : Array TypeId} (ho : okBuiltin P b ts = true) (t : TypeId) (cs : Array Bool) {xs ys : Array Value} (h : AR F p xs ys) : SR P F (NR F) p (builtin b ts t cs xs) (builtin b ts t cs ys) := by
  cases b <;> first | (cases ho; done) | skip
  · exact sr_v (sr_append ho t h)
  all_goals first
    | exact sr_v (sr_cap ho t h)
    | exact sr_v (sr_len ho t h)
    | exact sr_v (sr_copy ts t h)
    | exact sr_v (sr_min ts t h)
    | exact sr_v (sr_max ts t h)
    | exact sr_v (sr_sliceData ts t h)
    | exact sr_v (sr_unsafeString ts t h)
theorem plainT_guard {t : TypeId} {x y : Value} (ht : plainT P t = true) (u v : Operand) (op : BinOp) {x' y' : Value} (hx : VR F p x x') (hy : VR F p y y') : SR P F (fun _ _ _ => True) p (eqGuard op t u v x y) (eqGuard op t u v x' y') := by
  have hg : P.eqGuardType P.depth t = false := by
    show P.eqGuardType (2 * (P.types.size + Made.depth) + 1 + 1) t = false
    unfold Program.eqGuardType
    unfold plainT at ht
    cases hu : P.underlying t with
    | none => rfl
    | some d => rw [hu] at ht; cases d <;> first | rfl | cases ht
  have hi : ∀ {q : Ren P.globals.size} (a b : Value), SR P F (fun _ a b => a = false ∧ b = false) q (Op.eqGuardIn Op.maxDepth t a b) (Op.eqGuardIn Op.maxDepth t a b) := by
    intro q a b
    unfold Op.maxDepth Op.eqGuardIn
    refine (sr_underlying t).bind fun q2 _ d d' hd => ?_
    obtain ⟨rfl, hu⟩ := hd
    unfold plainT at ht
    rw [hu] at ht
    cases d <;> first | (cases ht; done) | exact sr_pure ⟨rfl, rfl⟩
  unfold eqGuard
  cases op
  all_goals first | exact sr_pure trivial | skip
  all_goals cases hx
  all_goals cases hy
  all_goals first
    | exact sr_pure trivial
    | exact sr_program.bind fun q _ a b hab => by
        rw [hab.1, hab.2]
        exact sr_program.bind fun q _ a b hab => by
          rw [hab.1, hab.2, hg]
          exact sr_pure trivial
    | skip
  all_goals dsimp only
  all_goals rw [if_neg (by simp)]
  all_goals repeat' split
  all_goals first
    | exact sr_pure trivial
    | (refine (hi _ _).bind fun q _ a b hab => ?_
       obtain ⟨rfl, rfl⟩ := hab
       exact sr_pure trivial)
set_option maxHeartbeats 1000000 in
theorem sr_execOp (hF : okFuncs P F) {o : Oper} (ho : okOp P F o.op = true) {e e' : Operand → Value} (h : ER F p e e') : SR P F (NR F) p (execOp e o) (execOp e' o) := by
  unfold execOp
  cases hop : o.op <;> rw [hop] at ho <;> first | (cases ho; done) | skip
  all_goals simp only [okOp, Bool.and_eq_true] at ho
  all_goals dsimp only
  all_goals first
    | exact sr_pure (.value (h _ ho))
    | exact (sr_asBool (h _ ho.1.1)).bind fun q hq a b hab => by cases hab; cases a <;> exact sr_pure (.value ((h _ (by first | exact ho.1.2 | exact ho.2)).le hq))
    | exact sr_v (sr_alloc ho)
    | exact sr_v (sr_box _ (h _ ho))
    | exact sr_v (sr_build ho.1 (h.parts ho.2))
    | exact sr_v (sr_buildSlice ho.1 _ (h.parts ho.2))
    | exact sr_v ((sr_sureAddr (h _ ho)).bind fun q hq a b hab => sr_loadVar _ hab)
    | exact sr_u ((sr_sureAddr (h _ ho.1)).bind fun q hq a b hab => sr_storeVar _ hab ((h _ ho.2).le hq))
    | exact sr_nilCheck (h _ ho)
    | exact sr_v (sr_extract (h _ ho) _)
    | exact sr_v (sr_iface _ (h _ ho))
    | exact sr_v (sr_unary _ (h _ ho))
    | exact sr_v ((plainT_guard ho.2 _ _ _ (h _ ho.1.1.1) (h _ ho.1.1.2)).bind fun q hq _ _ _ => sr_binOp ho.1.2 ho.2 ((h _ ho.1.1.1).le hq) ((h _ ho.1.1.2).le hq))
    | exact sr_v (sr_convert ho.2 (h _ ho.1))
    | exact sr_v (sr_makeSlice ho.1.1 (h _ ho.1.2) (h _ ho.2))
    | exact sr_v (sr_sliceAt (h _ ho.1.1.1) (h.opt ho.1.1.2) (h.opt ho.1.2) (h.opt ho.2))
    | exact sr_v (sr_fieldAt ho.2 (h _ ho.1))
    | exact sr_v (sr_indexAt (h _ ho.1) (h _ ho.2))
    | exact sr_v (sr_index (h _ ho.1) (h _ ho.2))
    | exact sr_v (sr_panicOp (h _ ho))
    | skip
  · rename_i x
    have h0 := h x ho
    generalize e x = v at h0 ⊢
    generalize e' x = v' at h0 ⊢
    have h1 := h0
    cases h0 <;> first | exact sr_rt (e := .nilDeref) trivial | exact sr_pure (.value h1)
  · rename_i fn first captured
    cases fn with
    | func f =>
      have h1 := h.map ho.1.2
      have h2 := h.map ho.2
      exact sr_v (sr_pure (.func ho.1.1 h1.1 h2.1 h1.2 h2.2))
    | _ => cases ho.1.1
  · rename_i c
    have ha := h.map ho.1
    obtain ⟨callee, args, ts⟩ := c
    cases callee with
    | value f =>
      have hf := h f ho.2
      unfold resolve
      dsimp only
      generalize e f = v at hf ⊢
      generalize e' f = v' at hf ⊢
      cases hf with
      | func h1 h2 h3 h4 h5 => exact sr_callFunc hF h1 (AR.append (AR.append ⟨h2, h4⟩ ha) ⟨h3, h5⟩)
      | nilFunc => exact sr_rt (e := .nilDeref) trivial
      | _ => exact sr_stb
    | builtin b => exact sr_builtin ho.2 _ _ ha
    | invoke r m => cases ho.2
end
end Go.Proofs.Ytebgcemglicjiaa
