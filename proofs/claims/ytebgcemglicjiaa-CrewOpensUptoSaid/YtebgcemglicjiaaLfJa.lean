/- The law of the two runs: where the lone run's operation comes to an end, so does the other's, with a value that stands for it. No condition of ours. -/
import Derived.Conc.Own
import Derived.RunT
import Derived.Laws.Sem
/- A run beside others is a lone run with its blocks renamed: values, heaps, and the meaning of an operation. No condition of ours. -/
namespace Go.Proofs.Ytebgcemglicjiaa

/-- Which block of the one run stands for which of the other: one for one, and none of the program's variables. -/
structure Ren (N : Nat) where
  f : Nat → Option Nat
  inj : ∀ a b c, f a = some c → f b = some c → a = b
  low : ∀ b c, f b = some c → N ≤ b ∧ N ≤ c
instance {N : Nat} : CoeFun (Ren N) (fun _ => Nat → Option Nat) := ⟨Ren.f⟩
def Ren.le {N : Nat} (p q : Ren N) : Prop := ∀ b c, p b = some c → q b = some c
theorem Ren.le_refl {N : Nat} (p : Ren N) : p.le p := fun _ _ h => h
theorem Ren.le_trans {N : Nat} {p q r : Ren N} (h : p.le q) (g : q.le r) : p.le r := fun b c x => g b c (h b c x)
def Ren.ext {N : Nat} (p : Ren N) (r s : Nat) (hr : p r = none) (hs : ∀ b, p b ≠ some s) (nr : N ≤ r) (ns : N ≤ s) : Ren N where
  f b := if b = r then some s else p b
  inj a b c ha hb := by
    split at ha <;> split at hb
    · subst_vars; rfl
    · cases ha; exact absurd hb (hs _)
    · cases hb; exact absurd ha (hs _)
    · exact p.inj _ _ _ ha hb
  low b c h := by
    split at h
    · cases h; subst_vars; exact ⟨nr, ns⟩
    · exact p.low _ _ h
section
variable {N : Nat} {p : Ren N} {r s : Nat} {hr : p r = none} {hs : ∀ b, p b ≠ some s} {nr : N ≤ r} {ns : N ≤ s}
theorem Ren.le_ext : p.le (p.ext r s hr hs nr ns) := by
  intro b c x
  show (if b = r then some s else p b) = some c
  split
  · subst_vars; rw [hr] at x; cases x
  · exact x
theorem Ren.ext_at : (p.ext r s hr hs nr ns) r = some s := by show (if r = r then some s else p r) = some s; simp
theorem Ren.ext_inv {b c : Nat} (h : (p.ext r s hr hs nr ns) b = some c) : (b = r ∧ c = s) ∨ (b ≠ r ∧ p b = some c) := by
  have h' : (if b = r then some s else p b) = some c := h
  split at h'
  · rename_i e; cases h'; exact .inl ⟨e, rfl⟩
  · rename_i e; exact .inr ⟨e, h'⟩
end

/-- Values that stand for one another; F: the functions that may be named. -/
inductive VR {N : Nat} (F : Nat → Bool) (p : Ren N) : Value → Value → Prop
  | bool (b : Bool) : VR F p (.bool b) (.bool b)
  | int (k : IntKind) (n : Int) : VR F p (.int k n) (.int k n)
  | float (k : FloatKind) (n : Nat) : VR F p (.float k n) (.float k n)
  | complex (k : FloatKind) (n m : Nat) : VR F p (.complex k n m) (.complex k n m)
  | string (s : ByteArray) : VR F p (.string s) (.string s)
  | pnil : VR F p (.pointer none) (.pointer none)
  | ptr {b c o : Nat} {s : Option Nat} : p b = some c → VR F p (.pointer (some ⟨b, o, s⟩)) (.pointer (some ⟨c, o, s⟩))
  | snil (n c : Nat) : VR F p (.slice none n c) (.slice none n c)
  | slice {b c o : Nat} {s : Option Nat} (n m : Nat) : p b = some c → VR F p (.slice (some ⟨b, o, s⟩) n m) (.slice (some ⟨c, o, s⟩) n m)
  | func {f : Nat} {xs ys xs' ys' : Array Value} : F f = true → xs.size = xs'.size → ys.size = ys'.size →
      (∀ i (h : i < xs.size) (h' : i < xs'.size), VR F p xs[i] xs'[i]) → (∀ i (h : i < ys.size) (h' : i < ys'.size), VR F p ys[i] ys'[i]) →
      VR F p (.func (.func f) xs ys) (.func (.func f) xs' ys')
  | mnil : VR F p (.map none) (.map none)
  | cnil : VR F p (.chan none) (.chan none)
  | nilFunc : VR F p .nilFunc .nilFunc
  | nilIface : VR F p .nilIface .nilIface
  | iface (t : TypeId) {v v' : Value} : VR F p v v' → VR F p (.iface t v) (.iface t v')
  | agg {xs xs' : Array Value} : xs.size = xs'.size → (∀ i (h : i < xs.size) (h' : i < xs'.size), VR F p xs[i] xs'[i]) → VR F p (.agg xs) (.agg xs')
  | tuple {xs xs' : Array Value} : xs.size = xs'.size → (∀ i (h : i < xs.size) (h' : i < xs'.size), VR F p xs[i] xs'[i]) → VR F p (.tuple xs) (.tuple xs')

/-- Rows of values that stand for one another. -/
def AR {N : Nat} (F : Nat → Bool) (p : Ren N) (xs ys : Array Value) : Prop := xs.size = ys.size ∧ ∀ i (h : i < xs.size) (h' : i < ys.size), VR F p xs[i] ys[i]
/-- Addresses that stand for one another. -/
def DR {N : Nat} (p : Ren N) (a b : Addr) : Prop := p a.block = some b.block ∧ b.off = a.off ∧ b.spot = a.spot

section
variable {N : Nat} {F : Nat → Bool} {p q : Ren N}
theorem VR.le {x y : Value} (h : VR F p x y) (hl : p.le q) : VR F q x y := by
  induction h with
  | bool b => exact .bool b
  | int k n => exact .int k n
  | float k n => exact .float k n
  | complex k n m => exact .complex k n m
  | string s => exact .string s
  | pnil => exact .pnil
  | ptr h => exact .ptr (hl _ _ h)
  | snil n c => exact .snil n c
  | slice n m h => exact .slice n m (hl _ _ h)
  | func hf h1 h2 _ _ i1 i2 => exact .func hf h1 h2 i1 i2
  | mnil => exact .mnil
  | cnil => exact .cnil
  | nilFunc => exact .nilFunc
  | nilIface => exact .nilIface
  | iface t _ ih => exact .iface t ih
  | agg h1 _ ih => exact .agg h1 ih
  | tuple h1 _ ih => exact .tuple h1 ih
theorem AR.le {xs ys : Array Value} (h : AR F p xs ys) (hl : p.le q) : AR F q xs ys := ⟨h.1, fun i a b => (h.2 i a b).le hl⟩
theorem DR.le {a b : Addr} (h : DR p a b) (hl : p.le q) : DR q a b := ⟨hl _ _ h.1, h.2⟩
theorem AR.get? {xs ys : Array Value} (h : AR F p xs ys) (i : Nat) : (xs[i]? = none ∧ ys[i]? = none) ∨ ∃ x y, xs[i]? = some x ∧ ys[i]? = some y ∧ VR F p x y := by
  by_cases hi : i < xs.size
  · have hj : i < ys.size := h.1 ▸ hi
    exact .inr ⟨xs[i], ys[i], Array.getElem?_eq_getElem hi, Array.getElem?_eq_getElem hj, h.2 i hi hj⟩
  · exact .inl ⟨Array.getElem?_eq_none (by omega), Array.getElem?_eq_none (by have := h.1; omega)⟩
theorem AR.empty : AR F p #[] #[] := ⟨rfl, fun _ h => absurd h (Nat.not_lt_zero _)⟩
theorem VR.undef : VR F p undef undef := .tuple rfl fun _ h => absurd h (Nat.not_lt_zero _)
theorem AR.of_get? {xs ys : Array Value} (hs : xs.size = ys.size) (h : ∀ (i : Nat) (x y : Value), xs[i]? = some x → ys[i]? = some y → VR F p x y) : AR F p xs ys :=
  ⟨hs, fun i a b => h i _ _ (Array.getElem?_eq_getElem a) (Array.getElem?_eq_getElem b)⟩
theorem AR.getD {xs ys : Array Value} (h : AR F p xs ys) (i : Nat) {d d' : Value} (hd : VR F p d d') : VR F p (xs.getD i d) (ys.getD i d') := by
  rcases h.get? i with ⟨a, b⟩ | ⟨x, y, a, b, c⟩
  · simp only [Array.getD_eq_getD_getElem?, a, b]; exact hd
  · simp only [Array.getD_eq_getD_getElem?, a, b]; exact c
theorem AR.set {xs ys : Array Value} (h : AR F p xs ys) (i : Nat) {x y : Value} (hx : VR F p x y) : AR F p (xs.setIfInBounds i x) (ys.setIfInBounds i y) := by
  refine ⟨by simp [h.1], fun j a b => ?_⟩
  rw [Array.getElem_setIfInBounds, Array.getElem_setIfInBounds]
  · split
    · exact hx
    · exact h.2 j (by simpa using a) (by simpa using b)
theorem AR.push {xs ys : Array Value} (h : AR F p xs ys) {x y : Value} (hx : VR F p x y) : AR F p (xs.push x) (ys.push y) := by
  refine ⟨by simp [h.1], fun j a b => ?_⟩
  rw [Array.getElem_push, Array.getElem_push]
  have := h.1
  split
  · rw [dif_pos (by omega)]; exact h.2 j _ _
  · rw [dif_neg (by omega)]; exact hx
theorem AR.append {xs ys xs' ys' : Array Value} (h : AR F p xs ys) (h' : AR F p xs' ys') : AR F p (xs ++ xs') (ys ++ ys') := by
  refine ⟨by simp [h.1, h'.1], fun j a b => ?_⟩
  rw [Array.getElem_append, Array.getElem_append]
  have h1 := h.1; have h2 := h'.1
  split
  · rw [dif_pos (by omega)]; exact h.2 j _ _
  · rw [dif_neg (by omega)]
    have : j - xs.size = j - ys.size := by omega
    have hj : j - xs.size < xs'.size := by simp at a; omega
    have hj' : j - ys.size < ys'.size := by simp at b; omega
    have := h'.2 (j - xs.size) hj (by omega)
    simpa only [h1] using this
theorem AR.extract {xs ys : Array Value} (h : AR F p xs ys) (a b : Nat) : AR F p (xs.extract a b) (ys.extract a b) := by
  refine ⟨by simp [h.1], fun j c d => ?_⟩
  rw [Array.getElem_extract, Array.getElem_extract]
  exact h.2 _ _ _
theorem AR.replicate (n : Nat) {x y : Value} (hx : VR F p x y) : AR F p (Array.replicate n x) (Array.replicate n y) :=
  ⟨by simp, fun j a b => by rw [Array.getElem_replicate, Array.getElem_replicate]; exact hx⟩
theorem AR.map {α : Type} (xs : Array α) {f g : α → Value} (h : ∀ x, VR F p (f x) (g x)) : AR F p (xs.map f) (xs.map g) :=
  ⟨by simp, fun j a b => by rw [Array.getElem_map, Array.getElem_map]; exact h _⟩
theorem DR.add {a b : Addr} (h : DR p a b) (n : Nat) : DR p (a.add n) (b.add n) := by
  obtain ⟨h1, h2, h3⟩ := h
  unfold Addr.add
  split
  · exact ⟨h1, h2, h3⟩
  · exact ⟨h1, by simp [h2], rfl⟩
theorem VR.ptr' {a b : Addr} (h : DR p a b) : VR F p (.pointer (some a)) (.pointer (some b)) := by
  obtain ⟨b1, o1, s1⟩ := a; obtain ⟨b2, o2, s2⟩ := b; obtain ⟨h1, h2, h3⟩ := h
  simp only at h1 h2 h3; subst h2; subst h3; exact .ptr h1
theorem VR.slice' {a b : Addr} (n m : Nat) (h : DR p a b) : VR F p (.slice (some a) n m) (.slice (some b) n m) := by
  obtain ⟨b1, o1, s1⟩ := a; obtain ⟨b2, o2, s2⟩ := b; obtain ⟨h1, h2, h3⟩ := h
  simp only at h1 h2 h3; subst h2; subst h3; exact .slice n m h1
theorem VR.pointer_inv {a : Addr} {y : Value} (h : VR F p (.pointer (some a)) y) : ∃ b, y = .pointer (some b) ∧ DR p a b := by
  cases h with | ptr h => exact ⟨_, rfl, h, rfl, rfl⟩
theorem VR.slice_inv {a : Addr} {n m : Nat} {y : Value} (h : VR F p (.slice (some a) n m) y) : ∃ b, y = .slice (some b) n m ∧ DR p a b := by
  cases h with | slice n m h => exact ⟨_, rfl, h, rfl, rfl⟩
theorem VR.cells {x y : Value} (h : VR F p x y) : AR F p x.cells y.cells := by
  have one : ∀ {x y : Value}, VR F p x y → AR F p #[x] #[y] := fun {x y} h =>
    ⟨rfl, fun i a b => by have : i = 0 := by simpa using a
                          subst this; exact h⟩
  cases h with
  | agg hs h => exact ⟨hs, h⟩
  | _ => apply one; constructor <;> assumption
end

/-- Objects that stand for one another: rows of cells, views and numbers. -/
def OR {N : Nat} (F : Nat → Bool) (p : Ren N) (o o' : Obj) : Prop :=
  (∃ cs cs' t fz, o = .cells cs t fz ∧ o' = .cells cs' t fz ∧ AR F p cs cs') ∨ (∃ a a' t, o = .view a t ∧ o' = .view a' t ∧ DR p a a') ∨ ∃ a a' l, o = .number a l ∧ o' = .number a' l ∧ DR p a a'
theorem OR.le {N : Nat} {F : Nat → Bool} {p q : Ren N} {o o' : Obj} (h : OR F p o o') (hl : p.le q) : OR F q o o' := by
  rcases h with ⟨cs, cs', t, fz, h1, h2, h3⟩ | ⟨a, a', t, h1, h2, h3⟩ | ⟨a, a', l, h1, h2, h3⟩
  · exact .inl ⟨cs, cs', t, fz, h1, h2, h3.le hl⟩
  · exact .inr (.inl ⟨a, a', t, h1, h2, h3.le hl⟩)
  · exact .inr (.inr ⟨a, a', l, h1, h2, h3.le hl⟩)
/-- Heaps that stand for one another. -/
structure HR {N : Nat} (F : Nat → Bool) (p : Ren N) (h h' : Array Obj) : Prop where
  n1 : N ≤ h.size
  n2 : N ≤ h'.size
  obj : ∀ b c, p b = some c → ∃ o o', h[b]? = some o ∧ h'[c]? = some o' ∧ OR F p o o'

/-- How a lone run may not come to a stop, if it is to return. -/
def Bad : Halt → Prop
  | .panic _ => True
  | .unsupported (.initOrder _) => False
  | .unsupported _ => True
  | .stuck _ => True
  | _ => False
/-- Marks that tell nothing. -/
def Meek : Mark → Bool
  | .extern _ => true
  | .noRoom => true
  | _ => false

/-- The meanings of an operation in the two runs. -/
inductive SR (P : Program) (F : Nat → Bool) {α β : Type} (A : Ren P.globals.size → α → β → Prop) : Ren P.globals.size → Sem α → Sem β → Prop
  | pure {p : Ren P.globals.size} {a : α} {b : β} : A p a b → SR P F A p (.pure a) (.pure b)
  | load {p : Ren P.globals.size} {a b : Addr} {k : Value → Sem α} {k' : Value → Sem β} : DR p a b → (∀ v v', VR F p v v' → SR P F A p (k v) (k' v')) → SR P F A p (.load .plain a k) (.load .plain b k')
  | store {p : Ren P.globals.size} {a b : Addr} {v v' : Value} {k : Sem α} {k' : Sem β} : DR p a b → VR F p v v' → SR P F A p k k' → SR P F A p (.store .plain a v k) (.store .plain b v' k')
  | new {p : Ren P.globals.size} {o o' : Obj} {k : Nat → Sem α} {k' : Nat → Sem β} : OR F p o o' → (∀ r s (hr : p r = none) (hs : ∀ b, p b ≠ some s) (nr : P.globals.size ≤ r) (ns : P.globals.size ≤ s), SR P F A (p.ext r s hr hs nr ns) (k r) (k' s)) → SR P F A p (.new o k) (.new o' k')
  | shape {p : Ren P.globals.size} {r s : Nat} {k : Option (TypeId × Nat) → Sem α} {k' : Option (TypeId × Nat) → Sem β} : p r = some s → (∀ x, SR P F A p (k x) (k' x)) → SR P F A p (.shape r k) (.shape s k')
  | freeze {p : Ren P.globals.size} {a b : Addr} {n : Nat} {k : Sem α} {k' : Sem β} : DR p a b → SR P F A p k k' → SR P F A p (.freeze a n k) (.freeze b n k')
  | frozen {p : Ren P.globals.size} {a b : Addr} {k : Bool → Sem α} {k' : Bool → Sem β} : DR p a b → (∀ x, SR P F A p (k x) (k' x)) → SR P F A p (.frozen a k) (.frozen b k')
  | getObj {p : Ren P.globals.size} {r s : Nat} {k : Obj → Sem α} {k' : Obj → Sem β} : p r = some s → (∀ a a' t, DR p a a' → SR P F A p (k (.view a t)) (k' (.view a' t))) → (∀ a a' l, DR p a a' → SR P F A p (k (.number a l)) (k' (.number a' l))) → SR P F A p (.getObj r k) (.getObj s k')
  | choose {p : Ren P.globals.size} {c : Question} {k : Nat → Sem α} {k' : Nat → Sem β} : (∀ n, SR P F A p (k n) (k' n)) → SR P F A p (.choose c k) (.choose c k')
  | program {p : Ren P.globals.size} {k : Program → Sem α} {k' : Program → Sem β} : SR P F A p (k P) (k' P) → SR P F A p (.program k) (.program k')
  | mark {p : Ren P.globals.size} {m : Mark} {k : Sem α} {k' : Sem β} : Meek m = true → SR P F A p k k' → SR P F A p (.mark m k) (.mark m k')
  | doom {p : Ren P.globals.size} {s : Sem α} {s' : Sem β} : (∀ w, ∃ hh wz, Bad hh ∧ s.run P w = .halt hh wz) → SR P F A p s s'

section
variable {P : Program} {F : Nat → Bool}
theorem SR.bind {α β γ δ : Type} {A : Ren P.globals.size → α → β → Prop} {B : Ren P.globals.size → γ → δ → Prop} {p : Ren P.globals.size} {s : Sem α} {s' : Sem β} {f : α → Sem γ} {f' : β → Sem δ} (h : SR P F A p s s')
    (hf : ∀ q, p.le q → ∀ a b, A q a b → SR P F B q (f a) (f' b)) : SR P F B p (s >>= f) (s' >>= f') := by
  show SR P F B p (s.bind f) (s'.bind f')
  induction h with
  | pure h => exact hf _ (Ren.le_refl _) _ _ h
  | load h _ ih => exact .load h fun v v' hv => ih v v' hv hf
  | store h hv _ ih => exact .store h hv (ih hf)
  | new h _ ih => exact .new h fun r s hr hs nr ns => ih r s hr hs nr ns fun q hq => hf q (Ren.le_trans Ren.le_ext hq)
  | shape h _ ih => exact .shape h fun x => ih x hf
  | freeze h _ ih => exact .freeze h (ih hf)
  | frozen h _ ih => exact .frozen h fun x => ih x hf
  | getObj h _ _ ih ih2 => exact .getObj h (fun a a' t ha => ih a a' t ha hf) (fun a a' l ha => ih2 a a' l ha hf)
  | choose _ ih => exact .choose fun n => ih n hf
  | program _ ih => exact .program (ih hf)
  | mark hm _ ih => exact .mark hm (ih hf)
  | doom h => exact .doom fun w => by obtain ⟨hh, wz, h1, h2⟩ := h w; exact ⟨hh, wz, h1, by rw [Sem.run_bind', h2]; rfl⟩
theorem SR.mono {α β : Type} {A B : Ren P.globals.size → α → β → Prop} {p : Ren P.globals.size} {s : Sem α} {s' : Sem β} (h : SR P F A p s s') (hf : ∀ q, p.le q → ∀ a b, A q a b → B q a b) : SR P F B p s s' := by
  induction h with
  | pure h => exact .pure (hf _ (Ren.le_refl _) _ _ h)
  | load h _ ih => exact .load h fun v v' hv => ih v v' hv hf
  | store h hv _ ih => exact .store h hv (ih hf)
  | new h _ ih => exact .new h fun r s hr hs nr ns => ih r s hr hs nr ns fun q hq => hf q (Ren.le_trans Ren.le_ext hq)
  | shape h _ ih => exact .shape h fun x => ih x hf
  | freeze h _ ih => exact .freeze h (ih hf)
  | frozen h _ ih => exact .frozen h fun x => ih x hf
  | getObj h _ _ ih ih2 => exact .getObj h (fun a a' t ha => ih a a' t ha hf) (fun a a' l ha => ih2 a a' l ha hf)
  | choose _ ih => exact .choose fun n => ih n hf
  | program _ ih => exact .program (ih hf)
  | mark hm _ ih => exact .mark hm (ih hf)
  | doom h => exact .doom h
theorem SR.halt {α β : Type} {A : Ren P.globals.size → α → β → Prop} {p : Ren P.globals.size} {h : Halt} {s' : Sem β} (hb : Bad h) : SR P F A p (.halt h) s' := .doom fun w => ⟨h, w, hb, rfl⟩
end
end Go.Proofs.Ytebgcemglicjiaa

/- What an operation does in the lone run it does in the run beside others. No condition of ours. -/
namespace Go.Proofs.Ytebgcemglicjiaa

/-- The lone run's tape answers as the other's, for the next m questions. -/
def Tapes (T : Nat → Question → Nat) (d : Nat) (w' : World) (m : Nat) : Prop := ∀ i, i < m → ∀ c, T (d + i) c = w'.tape (w'.drawn + i) c
/-- An access to what is one's own, or a mark that tells nothing. -/
def Own {N : Nat} (p : Ren N) (e : Event) : Prop :=
  (∃ (a : Addr) (x : Bool), e = ⟨.cell a, x, false⟩ ∧ ∃ b, p b = some a.block) ∨ (∃ r, e = ⟨.obj r, false, false⟩ ∧ ∃ b, p b = some r) ∨ ∃ m, e = ⟨.mark m, false, true⟩ ∧ Meek m = true
theorem Own.le {N : Nat} {p q : Ren N} {e : Event} (h : Own p e) (hl : p.le q) : Own q e := by
  rcases h with ⟨a, x, h, b, hb⟩ | ⟨r, h, b, hb⟩ | h
  · exact .inl ⟨a, x, h, b, hl _ _ hb⟩
  · exact .inr (.inl ⟨r, h, b, hl _ _ hb⟩)
  · exact .inr (.inr h)
/-- What was done to the world beside others: nothing to what is theirs. -/
structure Did {N : Nat} (p q : Ren N) (w w₁ : World) (es : Array Event) : Prop where
  tape : w₁.tape = w.tape
  os : w₁.os = w.os
  output : w₁.output = w.output
  size : w.heap.size ≤ w₁.heap.size
  others : ∀ c, c < w.heap.size → (∀ b, q b ≠ some c) → w₁.heap[c]? = w.heap[c]?
  mine : ∀ c, w.heap.size ≤ c → c < w₁.heap.size → ∃ b, q b = some c
  new : ∀ b c, q b = some c → p b = some c ∨ w.heap.size ≤ c
  evs : ∀ e ∈ es, Own q e
  le : p.le q
  drawn : w.drawn ≤ w₁.drawn
theorem Did.refl {N : Nat} (p : Ren N) (w : World) : Did p p w w #[] :=
  ⟨rfl, rfl, rfl, Nat.le_refl _, fun _ _ _ => rfl, fun c h g => absurd h (by omega), fun _ _ h => .inl h, fun e he => by simp at he, Ren.le_refl _, Nat.le_refl _⟩
theorem Did.trans {N : Nat} {p q r : Ren N} {w w₁ w₂ : World} {es es' : Array Event} (h : Did p q w w₁ es) (g : Did q r w₁ w₂ es') : Did p r w w₂ (es ++ es') where
  tape := g.tape.trans h.tape
  os := g.os.trans h.os
  output := g.output.trans h.output
  size := Nat.le_trans h.size g.size
  others c hc hb := (g.others c (Nat.lt_of_lt_of_le hc h.size) hb).trans (h.others c hc fun b hq => hb b (g.le _ _ hq))
  mine c h1 h2 := by
    by_cases hc : c < w₁.heap.size
    · obtain ⟨b, hb⟩ := h.mine c h1 hc; exact ⟨b, g.le _ _ hb⟩
    · exact g.mine c (by omega) h2
  new b c hb := by
    rcases g.new b c hb with hq | hq
    · exact h.new b c hq
    · exact .inr (Nat.le_trans h.size hq)
  evs e he := by
    rcases Array.mem_append.1 he with h1 | h1
    · exact (h.evs e h1).le g.le
    · exact g.evs e h1
  le := Ren.le_trans h.le g.le
  drawn := Nat.le_trans h.drawn g.drawn
theorem Did.ev {N : Nat} {p : Ren N} (w : World) {e : Event} (h : Own p e) : Did p p w w #[e] :=
  { Did.refl p w with evs := fun x hx => by simp at hx; subst hx; exact h }
section
variable {N : Nat} {F : Nat → Bool} {p : Ren N}
theorem HR.upd {h h' H H' : Array Obj} (hr : HR F p h h') (z1 : H.size = h.size) (z2 : H'.size = h'.size) {r s : Nat} (hp : p r = some s) {o o' : Obj} (e1 : H[r]? = some o) (e2 : H'[s]? = some o') (n1 : ∀ b, b ≠ r → H[b]? = h[b]?) (n2 : ∀ c, c ≠ s → H'[c]? = h'[c]?) (ho : OR F p o o') : HR F p H H' where
  n1 := z1 ▸ hr.n1
  n2 := z2 ▸ hr.n2
  obj b c hb := by
    by_cases e : b = r
    · subst e; rw [hp] at hb; cases hb; exact ⟨o, o', e1, e2, ho⟩
    · have : c ≠ s := fun g => e (p.inj _ _ _ (g ▸ hb) hp)
      obtain ⟨x, x', y1, y2, y3⟩ := hr.obj b c hb
      exact ⟨x, x', (n1 _ e).trans y1, (n2 _ this).trans y2, y3⟩
theorem HR.lt {h h' : Array Obj} (hr : HR F p h h') {b c : Nat} (hb : p b = some c) : b < h.size ∧ c < h'.size := by
  obtain ⟨o, o', h1, h2, _⟩ := hr.obj b c hb
  exact ⟨(Array.getElem?_eq_some_iff.1 h1).1, (Array.getElem?_eq_some_iff.1 h2).1⟩
theorem HR.fresh {h h' : Array Obj} (hr : HR F p h h') : p h.size = none ∧ ∀ b, p b ≠ some h'.size := by
  refine ⟨?_, fun b hb => absurd (hr.lt hb).2 (Nat.lt_irrefl _)⟩
  cases e : p h.size with
  | none => rfl
  | some c => exact absurd (hr.lt e).1 (Nat.lt_irrefl _)
theorem HR.push {h h' : Array Obj} (hr : HR F p h h') {o o' : Obj} (ho : OR F p o o') : HR F (p.ext h.size h'.size hr.fresh.1 hr.fresh.2 hr.n1 hr.n2) (h.push o) (h'.push o') := by
  refine ⟨by simp; exact Nat.le_succ_of_le hr.n1, by simp; exact Nat.le_succ_of_le hr.n2, fun b c hb => ?_⟩
  rcases Ren.ext_inv hb with ⟨rfl, rfl⟩ | ⟨_, hb'⟩
  · exact ⟨o, o', by simp, by simp, ho.le Ren.le_ext⟩
  · obtain ⟨x, x', y1, y2, y3⟩ := hr.obj b c hb'
    have l := hr.lt hb'
    exact ⟨x, x', by rw [Array.getElem?_push, if_neg (by omega)]; exact y1, by rw [Array.getElem?_push, if_neg (by omega)]; exact y2, y3.le Ren.le_ext⟩
theorem Did.upd {w : World} {H : Array Obj} {s r : Nat} (hp : p r = some s) (hs : H.size = w.heap.size) (n : ∀ c, c ≠ s → H[c]? = w.heap[c]?) : Did p p w { w with heap := H } #[] where
  tape := rfl
  os := rfl
  output := rfl
  size := by show w.heap.size ≤ H.size; omega
  others c _ hb := n c fun e => hb r (e ▸ hp)
  mine c h1 h2 := absurd h1 (by have : c < H.size := h2; omega)
  new _ _ h := .inl h
  evs e he := by simp at he
  le := Ren.le_refl _
  drawn := Nat.le_refl _
theorem Did.push {w : World} {o : Obj} {r : Nat} {hr : p r = none} {hs : ∀ b, p b ≠ some w.heap.size} {nr : N ≤ r} {ns : N ≤ w.heap.size} : Did p (p.ext r w.heap.size hr hs nr ns) w { w with heap := w.heap.push o } #[] where
  tape := rfl
  os := rfl
  output := rfl
  size := by simp
  others c h _ := by show (w.heap.push o)[c]? = _; rw [Array.getElem?_push, if_neg (by omega)]
  mine c h1 h2 := ⟨r, by have h2' : c < (w.heap.push o).size := h2
                         simp at h2'; rw [Ren.ext_at]; congr 1; omega⟩
  new b c hb := by
    rcases Ren.ext_inv hb with ⟨_, rfl⟩ | ⟨_, h⟩
    · exact .inr (Nat.le_refl _)
    · exact .inl h
  evs e he := by simp at he
  le := Ren.le_ext
  drawn := Nat.le_refl _
theorem Did.draw {w : World} : Did p p w { w with drawn := w.drawn + 1 } #[] :=
  ⟨rfl, rfl, rfl, Nat.le_refl _, fun _ _ _ => rfl, fun c h g => absurd h (by have : c < w.heap.size := g; omega), fun _ _ h => .inl h, fun e he => by simp at he, Ren.le_refl _, Nat.le_succ _⟩
end

/-! ### Plain data seen as bytes -/
theorem VR.bytes {N : Nat} {F : Nat → Bool} {p : Ren N} {x y : Value} (h : VR F p x y) : x.bytes? = y.bytes? := by cases h <;> rfl
theorem VR.ofBytes {N : Nat} {F : Nat → Bool} {p : Ren N} {x y : Value} (h : VR F p x y) (bs : List UInt8) : x.ofBytes bs = y.ofBytes bs := by cases h <;> rfl
theorem VR.of_ofBytes {N : Nat} (F : Nat → Bool) (p : Ren N) {x v : Value} {bs : List UInt8} (h : x.ofBytes bs = some v) : VR F p v v := by
  unfold Value.ofBytes at h
  split at h
  · split at h <;> cases h <;> constructor
  · split at h <;> cases h; constructor
  · split at h <;> cases h; constructor
  · split at h <;> cases h; constructor
  · cases h
theorem seenCells_rel {P : Program} {N : Nat} {F : Nat → Bool} {p : Ren N} {c c' : Array Value} (h : AR F p c c') (e : TypeId) (f x stop : Nat) : seenCells P c e f x stop = seenCells P c' e f x stop := by
  induction f generalizing x with
  | zero => rfl
  | succ f ih =>
    unfold seenCells
    split
    · rfl
    · dsimp only
      split
      · rfl
      · split
        · rfl
        · rename_i i s _
          rcases h.get? i with ⟨h1, h2⟩ | ⟨u, v, h1, h2, h3⟩
          · rw [h1, h2]
          · rw [h1, h2]
            dsimp only
            rw [h3.bytes]
            split
            · rfl
            · rfl
            · rw [ih]
end Go.Proofs.Ytebgcemglicjiaa

/- Views in the two runs, and the law: what the lone run's operation does, the other's does. No condition of ours. -/
namespace Go.Proofs.Ytebgcemglicjiaa
section
variable {P : Program} {N : Nat} {F : Nat → Bool} {p : Ren N}
theorem seen_rel {w w' : World} (H : HR F p w.heap w'.heap) {a a' k k' : Addr} (ha : DR p a a') (hk : k'.off = k.off ∧ k'.spot = k.spot) (u : TypeId) (m : Bool) :
    (∀ r, w.seen P a u k m = .ok r → ∃ c', w'.seen P a' u k' m = .ok (c', r.2) ∧ AR F p r.1 c' ∧ w.heap[a.block]? = some (.cells r.1 r.2.1 r.2.2.1) ∧ w'.heap[a'.block]? = some (.cells c' r.2.1 r.2.2.1)) := by
  intro r hr
  obtain ⟨o, o', h1, h2, h3⟩ := H.obj _ _ ha.1
  obtain ⟨_, ho, hs⟩ := ha
  rcases h3 with ⟨cs, cs', t, fz, rfl, rfl, hc⟩ | ⟨x, x', t, rfl, rfl, hx⟩ | ⟨x, x', t, rfl, rfl, hx⟩
  · have key : w'.seen P a' u k' m = (w.seen P a u k m).map fun r => (cs', r.2) := by
      unfold World.seen
      rw [hk.1, hk.2, hs, ho, h2, h1]
      simp only [seenCells_rel hc, bind, Except.bind, pure, Except.pure]
      repeat' split
      all_goals (first | rfl | (simp_all [Except.map]; done) | skip)
    have hcs : r.1 = cs ∧ r.2.1 = t ∧ r.2.2.1 = fz := by
      unfold World.seen at hr
      rw [h1] at hr
      simp only [bind, Except.bind, pure, Except.pure] at hr
      repeat' (split at hr)
      all_goals (first | (cases hr; done) | skip)
      all_goals (first | (cases hr; exact ⟨rfl, rfl, rfl⟩) | skip)
    rw [hr] at key
    obtain ⟨e1, e2, e3⟩ := hcs
    exact ⟨cs', key, by rw [e1]; exact hc, by rw [e1, e2, e3]; exact h1, by rw [e2, e3]; exact h2⟩
  all_goals
    unfold World.seen at hr
    rw [h1] at hr
    simp only [bind, Except.bind] at hr
    repeat' (split at hr)
    all_goals (cases hr; done)
theorem viewLoad_rel {w w' : World} (H : HR F p w.heap w'.heap) {a a' k k' : Addr} (ha : DR p a a') (hk : k'.off = k.off ∧ k'.spot = k.spot) (u : TypeId) (m : Bool) {v : Value} {l : List Addr}
    (h : w.viewLoad P a u k m = .ok (v, l)) : ∃ l', w'.viewLoad P a' u k' m = .ok (v, l') ∧ VR F p v v ∧ ∀ x ∈ l', x.block = a'.block := by
  unfold World.viewLoad at h ⊢
  cases hs : w.seen P a u k m with
  | error e => rw [hs] at h; cases h
  | ok r =>
    obtain ⟨c', h1, _⟩ := seen_rel (P := P) H ha hk u m r hs
    rw [hs] at h
    rw [h1]
    obtain ⟨c, e, fz, fi, like, cells⟩ := r
    simp only [bind, Except.bind, pure, Except.pure] at h ⊢
    split at h
    · rename_i v' hv
      cases h
      refine ⟨_, rfl, VR.of_ofBytes F p hv, fun x hx => ?_⟩
      obtain ⟨y, _, rfl⟩ := List.mem_map.1 hx
      rfl
    · cases h
theorem thr {α : Type} (s : String) : (MonadExcept.throw s : Except String α) = Except.error s := rfl
theorem fold_rel {X : Type} {f : Array Value → X → Except String (Array Value)} (hf : ∀ c c' x d, AR F p c c' → f c x = .ok d → ∃ d', f c' x = .ok d' ∧ AR F p d d') (l : List X) : ∀ {c c' d : Array Value}, AR F p c c' →
    l.foldlM f c = .ok d → ∃ d', l.foldlM f c' = .ok d' ∧ AR F p d d' := by
  induction l with
  | nil => intro c c' d h hd; cases hd; exact ⟨c', rfl, h⟩
  | cons x l ih =>
    intro c c' d h hd
    rw [List.foldlM_cons] at hd ⊢
    cases e : f c x with
    | error y => rw [e] at hd; cases hd
    | ok y =>
      obtain ⟨y', e', hy⟩ := hf c c' x y h e
      rw [e] at hd; rw [e']
      exact ih hy hd
theorem viewStore_rel {w w' : World} (H : HR F p w.heap w'.heap) {a a' k k' : Addr} (ha : DR p a a') (hk : k'.off = k.off ∧ k'.spot = k.spot) (u : TypeId) (m : Bool) {v v' : Value} (hv : VR F p v v') {w₁ : World} {l : List Addr}
    (h : w.viewStore P a u k v m = .ok (w₁, l)) : ∃ h₁ h₁' l' o o', w₁ = { w with heap := h₁ } ∧ w'.viewStore P a' u k' v' m = .ok ({ w' with heap := h₁' }, l') ∧ (∀ x ∈ l', x.block = a'.block) ∧
      h₁[a.block]? = some o ∧ h₁'[a'.block]? = some o' ∧ OR F p o o' ∧ (∀ b, b ≠ a.block → h₁[b]? = w.heap[b]?) ∧ (∀ b, b ≠ a'.block → h₁'[b]? = w'.heap[b]?) ∧ h₁'.size = w'.heap.size ∧ h₁.size = w.heap.size := by
  unfold World.viewStore at h ⊢
  cases hs : w.seen P a u k m with
  | error e =>
    rw [hs] at h
    simp only [bind, Except.bind] at h
    repeat' (split at h)
    all_goals (cases h; done)
  | ok r =>
    obtain ⟨c', h1, hc, y1, y2⟩ := seen_rel (P := P) H ha hk u m r hs
    rw [hs] at h
    rw [h1, ← hv.bytes]
    obtain ⟨c, e, fz, fi, like, cells⟩ := r
    simp only at hc y1 y2
    cases ht : tight P P.depth u with
    | false => simp only [ht, bind, Except.bind, pure, Except.pure] at h; cases h
    | true =>
      cases hb : v.bytes? with
      | none => simp only [ht, hb, bind, Except.bind] at h; cases h
      | some bytes =>
        simp only [ht, hb, thr, bind, Except.bind, pure, Except.pure, Bool.not_true, Bool.false_eq_true, if_false] at h ⊢
        split at h
        · cases h
        · rename_i hlen
          split at h
          · cases h
          · rename_i d hd
            cases h
            have key := fun hf => fold_rel (F := F) (p := p) hf cells hc hd
            obtain ⟨d', hd', hdd⟩ := key (by
              intro c c' x d hcc hx
              rcases hcc.get? x.1 with ⟨e1, e2⟩ | ⟨y, z, e1, e2, e3⟩
              · by_cases g1 : (decide (x.2.1 < fi) || decide (x.2.1 + x.2.2.length > fi + bytes.length)) = true
                · rw [if_pos g1] at hx; cases hx
                · by_cases g2 : (decide (fz.1 ≤ x.1) && decide (x.1 < fz.2)) = true
                  · rw [if_neg g1, if_pos g2] at hx; cases hx
                  · rw [if_neg g1, if_neg g2, e1] at hx; cases hx
              · by_cases g1 : (decide (x.2.1 < fi) || decide (x.2.1 + x.2.2.length > fi + bytes.length)) = true
                · rw [if_pos g1] at hx; cases hx
                · by_cases g2 : (decide (fz.1 ≤ x.1) && decide (x.1 < fz.2)) = true
                  · rw [if_neg g1, if_pos g2] at hx; cases hx
                  · rw [if_neg g1, if_neg g2, e1] at hx
                    cases hn : y.ofBytes (List.take x.2.2.length (List.drop (x.2.1 - fi) bytes)) with
                    | none => simp only [hn] at hx; cases hx
                    | some nv =>
                      simp only [hn] at hx
                      cases hx
                      refine ⟨c'.setIfInBounds x.1 nv, ?_, hcc.set x.1 (VR.of_ofBytes F p hn)⟩
                      rw [if_neg g1, if_neg g2, e2]
                      simp only [← e3.ofBytes, hn])
            rw [hd', if_neg hlen]
            have la := Array.getElem?_eq_some_iff.1 y1
            have lb := Array.getElem?_eq_some_iff.1 y2
            refine ⟨_, _, _, _, _, rfl, rfl, fun x hx => ?_, by rw [Array.getElem?_setIfInBounds_self_of_lt la.1], by rw [Array.getElem?_setIfInBounds_self_of_lt lb.1], .inl ⟨_, _, _, _, rfl, rfl, hdd⟩, fun b hb => by rw [Array.getElem?_setIfInBounds_ne (Ne.symm hb)], fun b hb => by rw [Array.getElem?_setIfInBounds_ne (Ne.symm hb)], by simp, by simp⟩
            obtain ⟨y, _, rfl⟩ := List.mem_map.1 hx
            rfl
end
end Go.Proofs.Ytebgcemglicjiaa

namespace Go.Proofs.Ytebgcemglicjiaa
/-- At these two worlds: both come to an end alike, or the lone one halts as it may not. -/
def TwinAt (P : Program) (F : Nat → Bool) {α β : Type} (A : Ren P.globals.size → α → β → Prop) (p : Ren P.globals.size) (s : Sem α) (s' : Sem β) (w w' : World) : Prop :=
  (∃ m a b q h₁ w₁' es', A q a b ∧ HR F q h₁ w₁'.heap ∧ Did p q w' w₁' es' ∧ w₁'.drawn = w'.drawn + m ∧
    (∀ T, Tapes T w.drawn w' m → s.run P { w with tape := T } = .ok a { w with heap := h₁, tape := T, drawn := w.drawn + m }) ∧
    (∀ es, s'.runT P w' es = (.ok b w₁', es ++ es'))) ∨
  (∃ m, ∀ T, Tapes T w.drawn w' m → ∃ hh wz, Bad hh ∧ s.run P { w with tape := T } = .halt hh wz)
section
variable {P : Program} {F : Nat → Bool} {α β : Type} {A : Ren P.globals.size → α → β → Prop}
theorem TwinAt.cons {p p' : Ren P.globals.size} {s k : Sem α} {s' k' : Sem β} {w w' w1 w1' : World} {e0 : Array Event} {h1 : Array Obj} (m0 : Nat) (hd : Did p p' w' w1' e0) (hw : w1 = { w with heap := h1, drawn := w.drawn + m0 }) (hdr : w1'.drawn = w'.drawn + m0)
    (hs : ∀ T, Tapes T w.drawn w' m0 → s.run P { w with tape := T } = k.run P { w1 with tape := T }) (hs' : ∀ es, s'.runT P w' es = k'.runT P w1' (es ++ e0)) (r : TwinAt P F A p' k k' w1 w1') : TwinAt P F A p s s' w w' := by
  subst hw
  have tp : ∀ (T : Nat → Question → Nat) m, Tapes T w.drawn w' (m0 + m) → Tapes T w.drawn w' m0 ∧ Tapes T (w.drawn + m0) w1' m := fun T m h =>
    ⟨fun i hi => h i (by omega), fun i hi c => by
      have := h (m0 + i) (by omega) c
      rw [hd.tape, hdr, Nat.add_assoc, Nat.add_assoc]; exact this⟩
  rcases r with ⟨m, a, b, q, h₁, w₁', es', ha, hh, hd', hdr', h2, h3⟩ | ⟨m, h2⟩
  · refine .inl ⟨m0 + m, a, b, q, h₁, w₁', e0 ++ es', ha, hh, hd.trans hd', by rw [hdr', hdr, Nat.add_assoc], fun T hT => ?_, fun es => ?_⟩
    · rw [hs T (tp T m hT).1, h2 T (tp T m hT).2, Nat.add_assoc]
    · rw [hs', h3, Array.append_assoc]
  · refine .inr ⟨m0 + m, fun T hT => ?_⟩
    rw [hs T (tp T m hT).1]
    exact h2 T (tp T m hT).2
theorem cell_block {w : World} {a : Addr} {v : Value} (h : w.cell? a = some v) : ∃ cs t fz, w.heap[a.block]? = some (.cells cs t fz) ∧ a.spot = none ∧ cs[a.off]? = some v := by
  unfold World.cell? at h
  split at h
  · rename_i c t fz hc
    cases hsp : a.spot with
    | none => rw [hsp] at h; exact ⟨c, t, fz, hc, rfl, h⟩
    | some s => rw [hsp] at h; cases h
  · cases h
theorem cell_at {w : World} {a : Addr} {cs : Array Value} {t : TypeId} {fz : Nat × Nat} (h : w.heap[a.block]? = some (.cells cs t fz)) : w.cell? a = if a.spot.isSome then none else cs[a.off]? := by
  unfold World.cell?; rw [h]
/-- Loads: alike. -/
theorem cell_rel {N : Nat} {p : Ren N} {w w' : World} (H : HR F p w.heap w'.heap) {a b : Addr} (hab : DR p a b) :
    (∃ v v', w.cell? a = some v ∧ w'.cell? b = some v' ∧ VR F p v v') ∨ (w.cell? a = none ∧ w'.cell? b = none) := by
  obtain ⟨o, o', h1, h2, h3⟩ := H.obj _ _ hab.1
  rcases h3 with ⟨cs, cs', t, fz, rfl, rfl, hc⟩ | ⟨x, x', t, rfl, rfl, hx⟩ | ⟨x, x', t, rfl, rfl, hx⟩
  · rw [cell_at h1, cell_at h2, hab.2.1, hab.2.2]
    cases a.spot with
    | some s => exact .inr ⟨rfl, rfl⟩
    | none =>
      rcases hc.get? a.off with ⟨y1, y2⟩ | ⟨x, y, y1, y2, y3⟩
      · exact .inr ⟨by simpa using y1, by simpa using y2⟩
      · exact .inl ⟨x, y, by simpa using y1, by simpa using y2, y3⟩
  · exact .inr ⟨by unfold World.cell?; rw [h1], by unfold World.cell?; rw [h2]⟩
  · exact .inr ⟨by unfold World.cell?; rw [h1], by unfold World.cell?; rw [h2]⟩
theorem frozen_rel {N : Nat} {p : Ren N} {w w' : World} (H : HR F p w.heap w'.heap) {a b : Addr} (hab : DR p a b) : w.frozen? a = w'.frozen? b := by
  obtain ⟨o, o', h1, h2, h3⟩ := H.obj _ _ hab.1
  unfold World.frozen?
  rw [h1, h2, hab.2.1]
  rcases h3 with ⟨cs, cs', t, fz, rfl, rfl, hc⟩ | ⟨x, x', t, rfl, rfl, hx⟩ | ⟨x, x', t, rfl, rfl, hx⟩ <;> rfl
theorem shape_rel {N : Nat} {p : Ren N} {w w' : World} (H : HR F p w.heap w'.heap) {a b : Nat} (hab : p a = some b) : w.shape? a = w'.shape? b := by
  obtain ⟨o, o', h1, h2, h3⟩ := H.obj _ _ hab
  unfold World.shape?
  rw [h1, h2]
  rcases h3 with ⟨cs, cs', t, fz, rfl, rfl, hc⟩ | ⟨x, x', t, rfl, rfl, hx⟩ | ⟨x, x', t, rfl, rfl, hx⟩
  · simp only [hc.1]
  · rfl
  · rfl
theorem own_cell {N : Nat} {p : Ren N} {a b : Addr} (h : DR p a b) (x : Bool) : Own p ⟨.cell b, x, false⟩ := .inl ⟨b, x, rfl, a.block, h.1⟩
theorem own_cells {N : Nat} {p : Ren N} {a b : Addr} (h : DR p a b) (x : Bool) {l : List Addr} (hl : ∀ y ∈ l, y.block = b.block) : ∀ e ∈ l.toArray.map (fun y => (⟨.cell y, x, false⟩ : Event)), Own p e := by
  intro e he
  obtain ⟨y, hy, rfl⟩ := Array.mem_map.1 he
  exact .inl ⟨y, x, rfl, a.block, by rw [hl y (by simpa using hy)]; exact h.1⟩
theorem modify_get (h : Array Obj) (r : Nat) (f : Obj → Obj) (b : Nat) : (h.modify r f)[b]? = if r = b then (h[b]?).map f else h[b]? := by
  rw [Array.getElem?_modify]
/-- One cell's value. -/
def OneV : Value → Prop
  | .agg _ => False
  | .tuple _ => False
  | _ => True
theorem run_store_one {γ : Type} {v : Value} (hv : OneV v) (m : Mode) (a : Addr) (k : Sem γ) (w : World) : (Sem.store m a v k).run P w = match w.cell? a with
    | some _ => if w.frozen? a then .halt (.unsupported (.unsafePointer "a write to bytes that a string shares")) w else k.run P (w.setCell a v)
    | none => match w.farStore P a v (m == .atomic) with
      | .ok (w, _) => k.run P w
      | .error h => .halt h w := by
  cases v <;> first | exact hv.elim | (simp only [Sem.run]; rfl)
theorem runT_store_one {γ : Type} {v : Value} (hv : OneV v) (m : Mode) (a : Addr) (k : Sem γ) (w : World) (es : Array Event) : (Sem.store m a v k).runT P w es = match w.cell? a with
    | some _ => if w.frozen? a then (.halt (.unsupported (.unsafePointer "a write to bytes that a string shares")) w, es) else k.runT P (w.setCell a v) (es.push ⟨.cell a, true, m == .atomic⟩)
    | none => match w.farStore P a v (m == .atomic) with
      | .ok (w, touched) => k.runT P w (es ++ touched.toArray.map (⟨.cell ·, true, m == .atomic⟩))
      | .error h => (.halt h w, es) := by
  cases v <;> first | exact hv.elim | (simp only [Sem.runT]; rfl)
theorem vs_tape (w : World) (T : Nat → Question → Nat) (x : Addr) (t : TypeId) (a : Addr) (v : Value) (m : Bool) : ({ w with tape := T } : World).viewStore P x t a v m = (w.viewStore P x t a v m).map fun r => ({ r.1 with tape := T }, r.2) := by
  unfold World.viewStore
  have es : ({ w with tape := T } : World).seen P x t a m = w.seen P x t a m := rfl
  rw [es]
  simp only [thr, bind, Except.bind, pure, Except.pure]
  repeat' split
  all_goals (first | rfl | (simp_all [Except.map]; done) | skip)
theorem VR.one {N : Nat} {p : Ren N} {v v' : Value} (h : VR F p v v') (g : OneV v) : OneV v' := by cases h <;> first | exact g | exact trivial
theorem SR.twin {p : Ren P.globals.size} {s : Sem α} {s' : Sem β} (h : SR P F A p s s') : ∀ w w' : World, HR F p w.heap w'.heap → TwinAt P F A p s s' w w' := by
  induction h with
  | pure h => exact fun w w' H => .inl ⟨0, _, _, _, w.heap, w', #[], h, H, Did.refl _ _, rfl, fun T _ => rfl, fun es => by simp [Sem.runT]⟩
  | @load p a b k k' hab _ ih =>
    intro w w' H
    rcases cell_rel H hab with ⟨v, v', h1, h2, hv⟩ | ⟨h1, h2⟩
    · refine TwinAt.cons (w1 := w) (w1' := w') (h1 := w.heap) (e0 := #[⟨.cell b, false, false⟩]) 0 (Did.ev w' (own_cell hab false)) rfl rfl (fun T _ => ?_) (fun es => ?_) (ih v v' hv w w' H)
      · have e : ({ w with tape := T } : World).cell? a = some v := h1
        simp only [Sem.run, e]
      · simp only [Sem.runT, h2]
        congr 1
    · obtain ⟨o, o', y1, y2, y3⟩ := H.obj _ _ hab.1
      rcases y3 with ⟨cs, cs', t, fz, rfl, rfl, hc⟩ | ⟨x, x', t, rfl, rfl, hx⟩ | ⟨x, x', tn, rfl, rfl, hx⟩
      · refine .inr ⟨0, fun T _ => ⟨.stuck "load: no such cell", { w with tape := T }, trivial, ?_⟩⟩
        have e : ({ w with tape := T } : World).cell? a = none := h1
        have e2 : ({ w with tape := T } : World).heap[a.block]? = some (.cells cs t fz) := y1
        simp only [Sem.run, e, World.farLoad, e2, World.noCell]
      · cases hl : w.viewLoad P x t a false with
        | error why =>
          refine .inr ⟨0, fun T _ => ⟨.unsupported (.unsafePointer why), { w with tape := T }, trivial, ?_⟩⟩
          have e : ({ w with tape := T } : World).cell? a = none := h1
          have e2 : ({ w with tape := T } : World).heap[a.block]? = some (.view x t) := y1
          have e3 : ({ w with tape := T } : World).viewLoad P x t a false = .error why := hl
          simp only [Sem.run, e, World.farLoad, e2]
          rw [show (Mode.plain == Mode.atomic) = false from rfl, e3]
        | ok r =>
          obtain ⟨v, l⟩ := r
          obtain ⟨l', g1, g2, g3⟩ := viewLoad_rel (P := P) H hx ⟨hab.2.1, hab.2.2⟩ t false hl
          refine TwinAt.cons (w1 := w) (w1' := w') (h1 := w.heap) (e0 := l'.toArray.map (⟨.cell ·, false, false⟩)) 0 { Did.refl p w' with evs := own_cells hx false g3 } rfl rfl (fun T _ => ?_) (fun es => ?_) (ih v v g2 w w' H)
          · have e : ({ w with tape := T } : World).cell? a = none := h1
            have e2 : ({ w with tape := T } : World).heap[a.block]? = some (.view x t) := y1
            have e3 : ({ w with tape := T } : World).viewLoad P x t a false = .ok (v, l) := hl
            simp only [Sem.run, e, World.farLoad, e2]
            rw [show (Mode.plain == Mode.atomic) = false from rfl, e3]
          · simp only [Sem.runT, h2, World.farLoad, y2]
            rw [show (Mode.plain == Mode.atomic) = false from rfl, g1]
      · refine .inr ⟨0, fun T _ => ⟨.stuck "load: no such cell", { w with tape := T }, trivial, ?_⟩⟩
        have e : ({ w with tape := T } : World).cell? a = none := h1
        have e2 : ({ w with tape := T } : World).heap[a.block]? = some (.number x tn) := y1
        simp only [Sem.run, e, World.farLoad, e2, World.noCell]
  | @store p a b v v' k k' hab hv _ ih =>
    intro w w' H
    by_cases ho : OneV v
    · rcases cell_rel H hab with ⟨u, u', h1, h2, hu⟩ | ⟨h1, h2⟩
      · cases hf : w.frozen? a with
        | true =>
          refine .inr ⟨0, fun T _ => ⟨.unsupported (.unsafePointer "a write to bytes that a string shares"), { w with tape := T }, trivial, ?_⟩⟩
          · have e : ({ w with tape := T } : World).cell? a = some u := h1
            have e2 : ({ w with tape := T } : World).frozen? a = true := hf
            rw [run_store_one ho, e]
            simp only [e2, if_true]
        | false =>
          obtain ⟨cs, t, fz, y1, ys, y2⟩ := cell_block h1
          obtain ⟨cs', t', fz', z1, zs, z2⟩ := cell_block h2
          have hh : ∃ o o', (w.setCell a v).heap[a.block]? = some o ∧ (w'.setCell b v').heap[b.block]? = some o' ∧ OR F p o o' := by
            refine ⟨.cells (cs.setIfInBounds a.off v) t fz, .cells (cs'.setIfInBounds b.off v') t' fz', ?_, ?_, ?_⟩
            · simp only [World.setCell, modify_get, if_true, y1, Option.map, ys, Option.isSome, Bool.false_eq_true, if_false]
            · simp only [World.setCell, modify_get, if_true, z1, Option.map, zs, Option.isSome, Bool.false_eq_true, if_false]
            · obtain ⟨o, o', x1, x2, x3⟩ := H.obj _ _ hab.1
              rw [y1] at x1; rw [z1] at x2
              cases x1; cases x2
              rcases x3 with ⟨c, c', t, fz, e1, e2, hc⟩ | ⟨x, x', t, e1, e2, hx⟩ | ⟨x, x', t, e1, e2, hx⟩
              · cases e1; cases e2
                rw [hab.2.1]
                exact .inl ⟨_, _, _, _, rfl, rfl, hc.set a.off hv⟩
              · cases e1
              · cases e1
          obtain ⟨o, o', x1, x2, x3⟩ := hh
          have n1 : ∀ c, c ≠ a.block → (w.setCell a v).heap[c]? = w.heap[c]? := fun c hc => by simp only [World.setCell, modify_get, if_neg (Ne.symm hc)]
          have n2 : ∀ c, c ≠ b.block → (w'.setCell b v').heap[c]? = w'.heap[c]? := fun c hc => by simp only [World.setCell, modify_get, if_neg (Ne.symm hc)]
          have H2 := H.upd (by simp [World.setCell]) (by simp [World.setCell]) hab.1 x1 x2 n1 n2 x3
          refine TwinAt.cons (w1 := w.setCell a v) (w1' := w'.setCell b v') (h1 := (w.setCell a v).heap) (e0 := #[⟨.cell b, true, false⟩]) 0 { Did.upd (H := (w'.setCell b v').heap) hab.1 (by simp [World.setCell]) n2 with evs := (Did.ev w' (own_cell hab true)).evs } rfl rfl (fun T _ => ?_) (fun es => ?_) (ih _ _ H2)
          · have e : ({ w with tape := T } : World).cell? a = some u := h1
            have e2 : ({ w with tape := T } : World).frozen? a = false := hf
            rw [run_store_one ho, e]
            simp only [e2, Bool.false_eq_true, if_false]
            rfl
          · have e2 : w'.frozen? b = false := by rw [← frozen_rel H hab]; exact hf
            rw [runT_store_one (hv.one ho), h2]
            simp only [e2, Bool.false_eq_true, if_false]
            congr 1
      · obtain ⟨o, o', y1, y2, y3⟩ := H.obj _ _ hab.1
        rcases y3 with ⟨cs, cs', t, fz, rfl, rfl, hc⟩ | ⟨x, x', t, rfl, rfl, hx⟩ | ⟨x, x', tn, rfl, rfl, hx⟩
        · refine .inr ⟨0, fun T _ => ⟨.stuck "store: no such cell", { w with tape := T }, trivial, ?_⟩⟩
          have e : ({ w with tape := T } : World).cell? a = none := h1
          have e2 : ({ w with tape := T } : World).heap[a.block]? = some (.cells cs t fz) := y1
          rw [run_store_one ho, e]
          simp only [World.farStore, e2, World.noCell]
        · cases hl : w.viewStore P x t a v false with
          | error why =>
            refine .inr ⟨0, fun T _ => ⟨.unsupported (.unsafePointer why), { w with tape := T }, trivial, ?_⟩⟩
            have e : ({ w with tape := T } : World).cell? a = none := h1
            have e2 : ({ w with tape := T } : World).heap[a.block]? = some (.view x t) := y1
            have e3 : ({ w with tape := T } : World).viewStore P x t a v false = .error why := by
              rw [vs_tape, hl]; rfl
            rw [run_store_one ho, e]
            simp only [World.farStore, e2]
            rw [show (Mode.plain == Mode.atomic) = false from rfl, e3]
          | ok r =>
            obtain ⟨w1, l⟩ := r
            obtain ⟨h₁, h₁', l', o, o', rfl, g1, g2, g3, g4, g5, g6, g7, g8, g9⟩ := viewStore_rel (P := P) H hx ⟨hab.2.1, hab.2.2⟩ t false hv hl
            have H2 := H.upd g9 g8 hx.1 g3 g4 g6 g7 g5
            refine TwinAt.cons (w1 := { w with heap := h₁ }) (w1' := { w' with heap := h₁' }) (h1 := h₁) (e0 := l'.toArray.map (⟨.cell ·, true, false⟩)) 0 { Did.upd (H := h₁') hx.1 g8 g7 with evs := own_cells hx true g2 } rfl rfl (fun T _ => ?_) (fun es => ?_) (ih _ _ H2)
            · have e : ({ w with tape := T } : World).cell? a = none := h1
              have e2 : ({ w with tape := T } : World).heap[a.block]? = some (.view x t) := y1
              rw [run_store_one ho, e]
              simp only [World.farStore, e2]
              rw [show (Mode.plain == Mode.atomic) = false from rfl, vs_tape, hl]
              rfl
            · rw [runT_store_one (hv.one ho), h2]
              simp only [World.farStore, y2]
              rw [show (Mode.plain == Mode.atomic) = false from rfl, g1]
        · refine .inr ⟨0, fun T _ => ⟨.stuck "store: no such cell", { w with tape := T }, trivial, ?_⟩⟩
          have e : ({ w with tape := T } : World).cell? a = none := h1
          have e2 : ({ w with tape := T } : World).heap[a.block]? = some (.number x tn) := y1
          rw [run_store_one ho, e]
          simp only [World.farStore, e2, World.noCell]
    · refine .inr ⟨0, fun T _ => ⟨.stuck "store: not the value of one cell", { w with tape := T }, trivial, ?_⟩⟩
      cases v <;> first | exact absurd trivial ho | rfl
  | @new p o o' k k' ho _ ih =>
    intro w w' H
    refine TwinAt.cons (w1 := { w with heap := w.heap.push o }) (w1' := { w' with heap := w'.heap.push o' }) (h1 := w.heap.push o) (e0 := #[]) 0 Did.push rfl rfl (fun T _ => by simp only [Sem.run]) (fun es => by simp only [Sem.runT, Array.append_empty]) (ih w.heap.size w'.heap.size H.fresh.1 H.fresh.2 H.n1 H.n2 _ _ (H.push ho))
  | @shape p r s k k' hr _ ih =>
    intro w w' H
    refine TwinAt.cons (w1 := w) (w1' := w') (h1 := w.heap) (e0 := #[]) 0 (Did.refl p w') rfl rfl (fun T _ => ?_) (fun es => by simp only [Sem.runT, Array.append_empty]) (ih (w'.shape? s) w w' H)
    have e : ({ w with tape := T } : World).shape? r = w'.shape? s := shape_rel H hr
    simp only [Sem.run, e]
  | @freeze p a b n k k' hab _ ih =>
    intro w w' H
    obtain ⟨o, o', y1, y2, y3⟩ := H.obj _ _ hab.1
    have n1 : ∀ c, c ≠ a.block → (w.freeze a n).heap[c]? = w.heap[c]? := fun c hc => by
      unfold World.freeze; split
      · rfl
      · simp only [modify_get, if_neg (Ne.symm hc)]
    have n2 : ∀ c, c ≠ b.block → (w'.freeze b n).heap[c]? = w'.heap[c]? := fun c hc => by
      unfold World.freeze; split
      · rfl
      · simp only [modify_get, if_neg (Ne.symm hc)]
    have hh : ∃ o o', (w.freeze a n).heap[a.block]? = some o ∧ (w'.freeze b n).heap[b.block]? = some o' ∧ OR F p o o' := by
      by_cases hn : n = 0
      · exact ⟨o, o', by simp only [World.freeze, hn, if_true, y1], by simp only [World.freeze, hn, if_true, y2], y3⟩
      · rcases y3 with ⟨cs, cs', t, fz, rfl, rfl, hc⟩ | ⟨x, x', t, rfl, rfl, hx⟩ | ⟨x, x', tn, rfl, rfl, hx⟩
        · obtain ⟨lo, hi⟩ := fz
          refine ⟨.cells cs t (if lo == hi then (a.off, a.off + n) else (min lo a.off, max hi (a.off + n))), .cells cs' t (if lo == hi then (b.off, b.off + n) else (min lo b.off, max hi (b.off + n))), by simp only [World.freeze, hn, if_false, modify_get, if_true, y1]; rfl, by simp only [World.freeze, hn, if_false, modify_get, if_true, y2]; rfl, ?_⟩
          rw [hab.2.1]
          exact .inl ⟨_, _, _, _, rfl, rfl, hc⟩
        · exact ⟨.view x t, .view x' t, by simp only [World.freeze, hn, if_false, modify_get, if_true, y1]; rfl, by simp only [World.freeze, hn, if_false, modify_get, if_true, y2]; rfl, .inr (.inl ⟨_, _, _, rfl, rfl, hx⟩)⟩
        · exact ⟨.number x tn, .number x' tn, by simp only [World.freeze, hn, if_false, modify_get, if_true, y1]; rfl, by simp only [World.freeze, hn, if_false, modify_get, if_true, y2]; rfl, .inr (.inr ⟨_, _, _, rfl, rfl, hx⟩)⟩
    obtain ⟨o, o', x1, x2, x3⟩ := hh
    have sz0 : (w.freeze a n).heap.size = w.heap.size := by unfold World.freeze; split <;> simp
    have sz : (w'.freeze b n).heap.size = w'.heap.size := by unfold World.freeze; split <;> simp
    have H2 := H.upd sz0 sz hab.1 x1 x2 n1 n2 x3
    have sh : ∀ w : World, ∀ a : Addr, w.freeze a n = { w with heap := (w.freeze a n).heap } := fun w a => by unfold World.freeze; split <;> rfl
    have hD := Did.upd (p := p) (w := w') (H := (w'.freeze b n).heap) hab.1 sz n2
    rw [← sh] at hD
    refine TwinAt.cons (w1 := w.freeze a n) (w1' := w'.freeze b n) (h1 := (w.freeze a n).heap) (e0 := #[]) 0 hD (sh w a) (by rw [sh]; rfl) (fun T _ => ?_) (fun es => by simp only [Sem.runT, Array.append_empty]) (ih _ _ H2)
    simp only [Sem.run]
    congr 1
    unfold World.freeze
    split <;> rfl
  | @frozen p a b k k' hab _ ih =>
    intro w w' H
    refine TwinAt.cons (w1 := w) (w1' := w') (h1 := w.heap) (e0 := #[]) 0 (Did.refl p w') rfl rfl (fun T _ => ?_) (fun es => by simp only [Sem.runT, Array.append_empty]) (ih (w'.frozen? b) w w' H)
    have e : ({ w with tape := T } : World).frozen? a = w'.frozen? b := frozen_rel H hab
    simp only [Sem.run, e]
  | @getObj p r s k k' hr _ _ ih ih2 =>
    intro w w' H
    obtain ⟨o, o', y1, y2, y3⟩ := H.obj _ _ hr
    rcases y3 with ⟨cs, cs', t, fz, rfl, rfl, hc⟩ | ⟨x, x', t, rfl, rfl, hx⟩ | ⟨x, x', tn, rfl, rfl, hx⟩
    · refine .inr ⟨0, fun T _ => ⟨.stuck "getObj: a row of cells", { w with tape := T }, trivial, ?_⟩⟩
      have e2 : ({ w with tape := T } : World).heap[r]? = some (.cells cs t fz) := y1
      simp only [Sem.run, e2]
    · refine TwinAt.cons (w1 := w) (w1' := w') (h1 := w.heap) (e0 := #[⟨.obj s, false, false⟩]) 0 (Did.ev w' (.inr (.inl ⟨s, rfl, r, hr⟩))) rfl rfl (fun T _ => ?_) (fun es => ?_) (ih x x' t hx w w' H)
      · have e2 : ({ w with tape := T } : World).heap[r]? = some (.view x t) := y1
        simp only [Sem.run, e2]
      · simp only [Sem.runT, y2, Obj.isChan]
        congr 1
    · refine TwinAt.cons (w1 := w) (w1' := w') (h1 := w.heap) (e0 := #[⟨.obj s, false, false⟩]) 0 (Did.ev w' (.inr (.inl ⟨s, rfl, r, hr⟩))) rfl rfl (fun T _ => ?_) (fun es => ?_) (ih2 x x' tn hx w w' H)
      · have e2 : ({ w with tape := T } : World).heap[r]? = some (.number x tn) := y1
        simp only [Sem.run, e2]
      · simp only [Sem.runT, y2, Obj.isChan]
        congr 1
  | @choose p c k k' _ ih =>
    intro w w' H
    cases hf : c.forced with
    | true => exact TwinAt.cons (w1 := w) (w1' := w') (h1 := w.heap) (e0 := #[]) 0 (Did.refl p w') rfl rfl (fun T _ => by simp only [Sem.run, hf, if_true]) (fun es => by simp only [Sem.runT, hf, if_true, Array.append_empty]) (ih 0 w w' H)
    | false =>
      refine TwinAt.cons (w1 := { w with drawn := w.drawn + 1 }) (w1' := { w' with drawn := w'.drawn + 1 }) (h1 := w.heap) (e0 := #[]) 1 Did.draw rfl rfl (fun T hT => ?_) (fun es => by simp only [Sem.runT, hf, Bool.false_eq_true, if_false, Array.append_empty]) (ih (c.cut (w'.tape w'.drawn c)) _ _ H)
      have e := hT 0 (by omega) c
      simp only [Nat.add_zero] at e
      simp only [Sem.run, hf, Bool.false_eq_true, if_false, e]
  | @program p k k' _ ih =>
    intro w w' H
    exact TwinAt.cons (w1 := w) (w1' := w') (h1 := w.heap) (e0 := #[]) 0 (Did.refl p w') rfl rfl (fun T _ => by simp only [Sem.run]) (fun es => by simp only [Sem.runT, Array.append_empty]) (ih w w' H)
  | @mark p m k k' hm _ ih =>
    intro w w' H
    exact TwinAt.cons (w1 := w) (w1' := w') (h1 := w.heap) (e0 := #[⟨.mark m, false, true⟩]) 0 (Did.ev w' (.inr (.inr ⟨m, rfl, hm⟩))) rfl rfl (fun T _ => by simp only [Sem.run]) (fun es => by simp only [Sem.runT]; congr 1) (ih w w' H)
  | doom h => exact fun w w' H => .inr ⟨0, fun T _ => h _⟩
end
end Go.Proofs.Ytebgcemglicjiaa
