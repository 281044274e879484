/- A walk of silent steps, told once for every judgement that bears them. No condition of ours. -/
import Derived.Test.YtebgcemglicjiaaCwB
import Derived.Conc.CompanyWords
namespace Go.Proofs.Ytebgcemglicjiaa
open Go.Conc
/-- What bears a step that turns nothing and lists nothing. -/
structure Sil (P : Program) (main : Bool) (W : World → Prop) (Y Z : Frame → Act → List Item → List Frame → Prop) : Prop where
  rr : ∀ {b b' : Frame} {a a' : Act} {k k' : List Item} {cs cs' : List Frame}, (∀ w, W w → stepG P main (G (b.at a k) cs) w = .go (G (b'.at a' k') cs') w #[]) → Y b' a' k' cs' → Y b a k cs
  rz : ∀ {b b' : Frame} {a a' : Act} {k k' : List Item} {cs cs' : List Frame}, (∀ w, W w → stepG P main (G (b.at a k) cs) w = .go (G { b'.at a' k' with mode := .returning } cs') w #[]) → Z b' a' k' cs' → Y b a k cs
  zr : ∀ {b b' : Frame} {a a' : Act} {k k' : List Item} {cs cs' : List Frame}, (∀ w, W w → stepG P main (G { b.at a k with mode := .returning } cs) w = .go (G (b'.at a' k') cs') w #[]) → Y b' a' k' cs' → Z b a k cs
  zz : ∀ {b b' : Frame} {a a' : Act} {k k' : List Item} {cs cs' : List Frame}, (∀ w, W w → stepG P main (G { b.at a k with mode := .returning } cs) w = .go (G { b'.at a' k' with mode := .returning } cs') w #[]) → Z b' a' k' cs' → Z b a k cs
section
variable {P : Program} {main : Bool} {W : World → Prop} {Y Z : Frame → Act → List Item → List Frame → Prop} {b : Frame} {a a' : Act} {k : List Item} {cs : List Frame}
theorem sl_skip (S : Sil P main W Y Z) (h : Y b a k cs) : Y b a (.code .skip :: k) cs := S.rr (fun _ _ => stepG_skip) h
theorem sl_label (S : Sil P main W Y Z) {l : Nat} (h : Y b a k cs) : Y b a (.code (.label l) :: k) cs := S.rr (fun _ _ => stepG_label) h
theorem sl_inBlock (S : Sil P main W Y Z) {id : Nat} (h : Y b a k cs) : Y b a (.inBlock id :: k) cs := S.rr (fun _ _ => stepG_inBlock) h
theorem sl_seq (S : Sil P main W Y Z) {x y : Code} (h : Y b a (.code x :: .code y :: k) cs) : Y b a (.code (.seq x y) :: k) cs := S.rr (fun _ _ => stepG_seq) h
theorem sl_true (S : Sil P main W Y Z) {c : Operand} {x y : Code} (hc : a.eval c = .bool true) (h : Y b a (.code x :: k) cs) : Y b a (.code (.cond c x y) :: k) cs := S.rr (fun _ _ => stepG_cond hc) h
theorem sl_false (S : Sil P main W Y Z) {c : Operand} {x y : Code} (hc : a.eval c = .bool false) (h : Y b a (.code y :: k) cs) : Y b a (.code (.cond c x y) :: k) cs := S.rr (fun _ _ => stepG_cond hc) h
theorem sl_block (S : Sil P main W Y Z) {id : Nat} {c : Code} (h : Y b a (.code c :: .inBlock id :: k) cs) : Y b a (.code (.block id c) :: k) cs := S.rr (fun _ _ => stepG_block) h
theorem sl_loop (S : Sil P main W Y Z) {c : Code} (h : Y b a (.code c :: .inLoop c :: k) cs) : Y b a (.code (.loop c) :: k) cs := S.rr (fun _ _ => stepG_loop) h
theorem sl_inLoop (S : Sil P main W Y Z) {c : Code} (h : Y b a (.code c :: .inLoop c :: k) cs) : Y b a (.inLoop c :: k) cs := S.rr (fun _ _ => stepG_inLoop) h
theorem sl_exit (S : Sil P main W Y Z) {id : Nat} {k' : List Item} (he : exitTo id k = some k') (h : Y b a k' cs) : Y b a (.code (.exit id) :: k) cs := S.rr (fun _ _ => stepG_exit he) h
theorem sl_region (S : Sil P main W Y Z) {id : Nat} {ops : Array Oper} {l : List Nat} (hl : List.range ops.size = l) (h : Y b a (.inRegion ops l :: k) cs) : Y b a (.code (.region id ops false) :: k) cs := S.rr (fun _ _ => stepG_region) (hl ▸ h)
theorem sl_done (S : Sil P main W Y Z) {ops : Array Oper} (h : Y b a k cs) : Y b a (.inRegion ops [] :: k) cs := S.rr (fun _ _ => stepG_region_end) h
theorem sl_end (S : Sil P main W Y Z) (h : Z b a [] cs) : Y b a [] cs := S.rz (fun _ _ => stepG_end) h
theorem sl_ret (S : Sil P main W Y Z) (h : Z b a (.code .ret :: k) cs) : Y b a (.code .ret :: k) cs := S.rz (fun _ _ => stepG_ret') h
section
variable {ops : Array Oper} {i : Nat} {rest : List Nat} {o : Oper}
theorem sl_op (S : Sil P main W Y Z) {v : Value} (ho : ops[i]? = some o) (hw : Region.wanted o (yielded ops a.tmps) = true) (hk : b.kind ≠ .early)
    (hr : ∀ w, W w → ∀ K : Result Next → Prop, K (.ok (.value v) w) → K ((execOp a.eval o).run P w)) (he : ∀ w, W w → (execOp a.eval o).events P w #[] = #[]) (ha : a.put o.dst v = a')
    (h : Y b a' (.inRegion ops rest :: k) cs) : Y b a (.inRegion ops (i :: rest) :: k) cs := by
  subst ha
  exact S.rr (fun w hW => by rw [stepG_value ho hw hk (hr w hW (· = _) rfl)]; unfold listed; rw [he w hW, seen_none]) h
/-- 'unsafe.Pointer(p)'. -/
theorem sl_conv (S : Sil P main W Y Z) {src dst t : TypeId} {x : Operand} {ad : Addr} (ho : ops[i]? = some o) (hw : Region.wanted o (yielded ops a.tmps) = true) (hk : b.kind ≠ .early)
    (hop : o.op = .convert src dst x) (hx : a.eval x = .pointer (some ad)) (hs : P.underlying src = some (.pointer t)) (hd : P.underlying dst = some .unsafePointer) (hsz : (P.info? t).map (fun i => decide (i.size = 0)) = some false)
    (hc : ∀ w, W w → ∃ v, w.cell? ad = some v) (ha : a.put o.dst (.pointer (some ad)) = a')
    (h : Y b a' (.inRegion ops rest :: k) cs) : Y b a (.inRegion ops (i :: rest) :: k) cs := by
  have e : execOp a.eval o = (do pure (.value (← convert src dst (.pointer (some ad)))) : Sem Next) := by unfold execOp; rw [hop]; simp only [hx]
  refine sl_op S ho hw hk (fun w hW K hK => ?_) (fun w hW => ?_) ha h
  · obtain ⟨v, hv⟩ := hc w hW
    rw [e]
    have := run_convert_to_unsafe (P := P) hs hd hsz hv
    simpa [this, Result.andThen] using hK
  · obtain ⟨v, hv⟩ := hc w hW
    rw [e]
    have h1 := run_convert_to_unsafe (P := P) hs hd hsz hv
    have h2 := events_convert_to_unsafe (P := P) hs hd hsz hv #[]
    simp [h2]
theorem sl_off (S : Sil P main W Y Z) (ho : ops[i]? = some o) (hw : Region.wanted o (yielded ops a.tmps) = false) (ha : a.put o.dst undef = a')
    (h : Y b a' (.inRegion ops rest :: k) cs) : Y b a (.inRegion ops (i :: rest) :: k) cs := by
  subst ha
  exact S.rr (fun _ _ => stepG_unwanted ho hw) h
theorem sl_defer (S : Sil P main W Y Z) {f : FuncId} {as : Array Operand} {ats : Array TypeId} (ho : ops[i]? = some o) (hw : Region.wanted o (yielded ops a.tmps) = true) (hk : b.kind ≠ .early)
    (hop : o.op = .defer { callee := .value (.func f), args := as, argTypes := ats }) (ha : Act.put ⟨a.tmps, dcall f (as.map a.eval) :: a.defers⟩ o.dst undef = a')
    (h : Y b a' (.inRegion ops rest :: k) cs) : Y b a (.inRegion ops (i :: rest) :: k) cs := by
  subst ha
  exact S.rr (fun _ _ => stepG_defer ho hw hk hop) h
theorem sl_call (S : Sil P main W Y Z) {f : FuncId} {fn : Func} {c : Code} {as : Array Operand} {ats : Array TypeId} (ho : ops[i]? = some o) (hw : Region.wanted o (yielded ops a.tmps) = true) (hk : b.kind ≠ .early)
    (hop : o.op = .call { callee := .value (.func f), args := as, argTypes := ats }) (hf : P.funcs[f]? = some fn) (hname : (fn.name == "runtime.NumGoroutine") = false) (hb : fn.body = some c)
    (ha : ({ tmps := as.map a.eval ++ Array.replicate (fn.ntmps - (as.map a.eval).size) undef, defers := [] } : Act) = a')
    (h : Y (base f) a' [.code c] (b.at a (.inRegion ops (i :: rest) :: k) :: cs)) : Y b a (.inRegion ops (i :: rest) :: k) cs := by
  subst ha
  refine S.rr (fun w _ => ?_) h
  have := goes_call (P := P) (main := main) (b := b) (a := a) (k := k) (cs := cs) (w := w) (rest := rest) (K := fun g' w' es => stepG P main (G (b.at a (.inRegion ops (i :: rest) :: k)) cs) w = .go g' w' es → g' = G ((base f).at { tmps := as.map a.eval ++ Array.replicate (fn.ntmps - (as.map a.eval).size) undef, defers := [] } [.code c]) (b.at a (.inRegion ops (i :: rest) :: k) :: cs) ∧ w' = w ∧ es = #[])
    ho hw hk hop hf hname hb (fun _ => ⟨rfl, rfl, rfl⟩)
  obtain ⟨g', w', es, e, hd⟩ := goes_elim this
  obtain ⟨rfl, rfl, rfl⟩ := hd e
  exact e
theorem sl_entry (S : Sil P main W Y Z) {f : FuncId} {fn : Func} {as : Array Operand} {ats : Array TypeId} (v : Value) (ho : ops[i]? = some o) (hw : Region.wanted o (yielded ops a.tmps) = true) (hk : b.kind ≠ .early)
    (hop : o.op = .call { callee := .value (.func f), args := as, argTypes := ats }) (hf : P.funcs[f]? = some fn) (hname : (fn.name == "runtime.NumGoroutine") = false) (hb : fn.body.isNone = true)
    (hn : Extern.findNext fn = none) (he : Extern.find fn = some (fun _ => pure v)) (ha : a.put o.dst v = a')
    (h : Y b a' (.inRegion ops rest :: k) cs) : Y b a (.inRegion ops (i :: rest) :: k) cs := by
  subst ha
  exact S.rr (fun _ _ => stepG_entry_pure v ho hw hk hop hf hname hb hn he) h
end
section
variable {b₀ : Frame} {a₀ a₁ : Act} {ops : Array Oper} {i : Nat} {rest : List Nat} {fn : Func}
theorem sl_leave0 (S : Sil P main W Y Z) {todo : List Item} (hn : b.kind = .normal) (hd : a.defers = []) (hf : P.funcs[b.fn]? = some fn) (hr : fn.results = #[]) (ha : a₀.put ((ops[i]?).bind (·.dst)) (.tuple #[]) = a₁)
    (h : Y b₀ a₁ (.inRegion ops rest :: k) cs) : Z b a todo (b₀.at a₀ (.inRegion ops (i :: rest) :: k) :: cs) := by
  subst ha
  exact S.zr (fun w _ => (stepG_leave (b := b) (c := b₀.at a₀ (.inRegion ops (i :: rest) :: k)) hn hd hf (results_none hr _ P w) (events_results_none hr _ _)).trans (by rw [Frame.finish_at])) h
theorem sl_leave1 (S : Sil P main W Y Z) {todo : List Item} {t : Tmp} (hn : b.kind = .normal) (hd : a.defers = []) (hf : P.funcs[b.fn]? = some fn) (hr : fn.results = #[.tmp t]) (ha : a₀.put ((ops[i]?).bind (·.dst)) (a.tmps.getD t undef) = a₁)
    (h : Y b₀ a₁ (.inRegion ops rest :: k) cs) : Z b a todo (b₀.at a₀ (.inRegion ops (i :: rest) :: k) :: cs) := by
  subst ha
  exact S.zr (fun w _ => (stepG_leave (b := b) (c := b₀.at a₀ (.inRegion ops (i :: rest) :: k)) hn hd hf (results_tmp hr _ P w) (events_results_tmp hr _ _)).trans (by rw [Frame.finish_at])) h
theorem sl_leave2 (S : Sil P main W Y Z) {todo : List Item} {t u : Tmp} (hn : b.kind = .normal) (hd : a.defers = []) (hf : P.funcs[b.fn]? = some fn) (hr : fn.results = #[.tmp t, .tmp u])
    (ha : a₀.put ((ops[i]?).bind (·.dst)) (.tuple #[a.tmps.getD t undef, a.tmps.getD u undef]) = a₁)
    (h : Y b₀ a₁ (.inRegion ops rest :: k) cs) : Z b a todo (b₀.at a₀ (.inRegion ops (i :: rest) :: k) :: cs) := by
  subst ha
  exact S.zr (fun w _ => (stepG_leave (b := b) (c := b₀.at a₀ (.inRegion ops (i :: rest) :: k)) hn hd hf (results_tmp2 hr _ P w) (events_results_tmp2 hr _ _)).trans (by rw [Frame.finish_at])) h
/-- A deferred call of a function is entered. -/
theorem sl_unwind (S : Sil P main W Y Z) {todo : List Item} {f : FuncId} {args : Array Value} {ds : List Deferred} {c : Code} (hd : a.defers = dcall f args :: ds) (hf : P.funcs[f]? = some fn) (hname : (fn.name == "runtime.NumGoroutine") = false) (hb : fn.body = some c)
    (ha : ({ tmps := args ++ Array.replicate (fn.ntmps - args.size) undef, defers := [] } : Act) = a')
    (h : Y (baseD f) a' [.code c] ({ b.at ⟨a.tmps, ds⟩ todo with mode := .returning } :: cs)) : Z b a todo cs := by
  subst ha
  exact S.zr (fun _ _ => stepG_unwind_enter (b := b) hd hf hname hb) h
/-- The return of a deferred call without results. -/
theorem sl_leaveD (S : Sil P main W Y Z) {todo todo' : List Item} (hn : b.kind = .deferred) (hd : a.defers = []) (hf : P.funcs[b.fn]? = some fn) (hr : fn.results = #[])
    (h : Z b₀ a₀ todo' cs) : Z b a todo ({ b₀.at a₀ todo' with mode := .returning } :: cs) :=
  S.zz (fun w _ => stepG_leave_deferred (b := b) (c := { b₀.at a₀ todo' with mode := .returning }) hn hd hf (results_none hr _ P w) (events_results_none hr _ _) rfl) h
end
/-! ### who bears them -/
theorem sil_of {X : Goroutine → Prop} (h : ∀ g g', g.status = .running → (∀ w, W w → stepG P main g w = .go g' w #[]) → X g' → X g) : Sil P main W (fun b a k cs => X (G (b.at a k) cs)) (fun b a k cs => X (G { b.at a k with mode := .returning } cs)) :=
  ⟨fun e x => h _ _ rfl e x, fun e x => h _ _ rfl e x, fun e x => h _ _ rfl e x, fun e x => h _ _ rfl e x⟩
def Quit (P : Program) (d : Nat) (g : Goroutine) : Prop := ∃ q, QuitsD P q d g
theorem sil_quits (d : Nat) : Sil P false (fun _ => True) (fun b a k cs => Quit P d (G (b.at a k) cs)) (fun b a k cs => Quit P d (G { b.at a k with mode := .returning } cs)) := sil_of fun _ _ hs h ⟨q, hq⟩ => ⟨q + 1, QuitsD.ctl hs (fun w => h w trivial) hq⟩
/-- So many steps from a stop, whatever the others do. -/
def Go1 (P : Program) (main : Bool) (R : World → World → Prop) (D : World → World → Array Event → Prop) (Stop : Goroutine → World → Prop) (w : World) (g : Goroutine) : Prop := ∃ m, Goes P main R D Stop m g w
theorem sil_goes {R : World → World → Prop} {D : World → World → Array Event → Prop} {Stop : Goroutine → World → Prop} (tr : ∀ x y z, R x y → R y z → R x z) (still : ∀ w, D w w #[]) (w : World) :
    Sil P main (R w) (fun b a k cs => Go1 P main R D Stop w (G (b.at a k) cs)) (fun b a k cs => Go1 P main R D Stop w (G { b.at a k with mode := .returning } cs)) :=
  sil_of fun _ _ hs h ⟨m, hm⟩ => ⟨m + 1, Goes.step hs fun w₁ r => by rw [h w₁ r]; exact ⟨still w₁, Goes.rely tr hm r⟩⟩
end
end Go.Proofs.Ytebgcemglicjiaa
