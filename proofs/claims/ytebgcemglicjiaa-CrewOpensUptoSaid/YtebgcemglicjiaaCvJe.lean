/- From one good run from every start to a row that says 'leaving' and bears a condition. No condition of ours. -/
import Derived.JoinedCond
import Derived.ClaimOpenTies
import Derived.JoinedOf
import Derived.Conc.LeavingOf
/- A call that starts no goroutine, in a row that says 'leaving': whoever is alone at the return has nobody who leaves. -/
namespace Go.Proofs.Ytebgcemglicjiaa

theorem leaves_of_alone (P : Program) (m : Machine) (w : World) (t : Trace) (h : aloneAtReturn P m w t) : leavingAtReturn P m w t := by
  obtain ⟨⟨hd, ht⟩, ho, he⟩ := h
  refine ⟨ho, ⟨fun g hg => ⟨0, ?_⟩, ht⟩, he⟩
  unfold Machine.othersDone at hd
  have := List.all_eq_true.1 hd g hg
  show g.status = .finished
  exact beq_iff_eq.1 this

/-- A row that says 'leaving' holds where the same row that says 'alone' does. -/
theorem holds_leaving {p : Pinned} {s : OpenSpec} {c : OpenClaim} (hl : c.leaving = true) (ha : c.again = false) (hs : c.start = .entering) (hst : c.stops = []) (h : OpenClaim.holds p s { c with leaving := false }) : c.holds p s := by
  obtain ⟨h1, h2, h3, h4, h5, h6, h7, h8, f, fn, g1, g2, g3, g4, g5, g6, g7, g8, g9, g10, g11, g12, g13, g14, g15, g16, g17, g18, g19, g20, g21, L, hL, hall⟩ := h
  refine ⟨?_, h2, h3, h4, h5, h6, h7, h8, f, fn, g1, g2, g3, g4, g5, g6, g7, g8, g9, g10, g11, g12, g13, g14, g15, g16, g17, g18, g19, g20, g21, L, hL, fun os st q H enc inj => ?_⟩
  · have e : ∀ b : Bool, ({ c with leaving := b } : OpenClaim).wf s = ({ c with leaving := false } : OpenClaim).wf s := fun b => by
      unfold OpenClaim.wf
      simp only [ha, Bool.false_and]
      rfl
    have := e c.leaving
    rw [show ({ c with leaving := c.leaving } : OpenClaim) = c from rfl] at this
    rw [this]; exact h1
  · have := hall os st q H enc inj
    unfold OpenClaim.form at this ⊢
    simp only [hs, hst] at this ⊢
    intro F
    refine ReturnsInOpen.mono ?_ (fun _ x => x) (this F)
    intro m w t hh
    unfold OpenClaim.atReturn at hh ⊢
    rw [hl]
    exact leaves_of_alone _ _ _ _ hh
end Go.Proofs.Ytebgcemglicjiaa

namespace Go.Proofs.Ytebgcemglicjiaa
open Go.Conc
section
variable {H : Type} {enc : TypeId × Value → H}
/-- Whoever is alone: a good run. -/
theorem good_of_calls {P : Program} {f : FuncId} {args : Array Value} {W : World} {Post : Value → World → Prop} (h : Calls P f args W fun e w' => ∃ v, e = .returned v ∧ Post v w') (hi : P.inits.idxOf? f = none) :
    ∃ M last o w' t', runNT P (M + 1) (solo (G (Frame.enter P f args .normal) []) W) #[] = (.ended o w', t') ∧ runN P M (solo (G (Frame.enter P f args .normal) []) W) = .next last ∧ step P last = .ended o w' ∧ Go.Conc.Good P Post last o w' t' := by
  obtain ⟨n, v, w', fr, hn, hend, hp⟩ := (h.mono (R' := fun | .returned v, w' => Post v w' | _, _ => False) fun e w' q => by
    obtain ⟨v, rfl, q⟩ := q
    exact q).done_lone hi
  have hl := leaves_of_alone P _ w' _ (alone_of_lone (w' := w') hn)
  refine ⟨n, _, .done v, w', (runNT P (n + 1) (lone (Frame.enter P f args .normal) [] W) #[]).2, Prod.ext ?_ rfl, hn, step_of_runs hn hend, v, rfl, hp, fun said => (no_race_of_lone (said := said) P n _ _ hn (by simp [lone]) rfl).2, hl.1, hl.2.1, hl.2.2⟩
  show (runNT P (n + 1) (lone (Frame.enter P f args .normal) [] W) #[]).1 = _
  rw [runNT_fst]
  exact hend
/-- One good run from every start that meets the row's condition. -/
theorem leaving_of_cond {a : Assume} {C : Checked} {os : Os} {f : FuncId} {fn : Func} {s : OpenSpec} {k : (H : Type) → List (DataW H) → Bool} (hk : s.cond = some k) {F : Stop.Interp} {conds : List PathCond} {apart fresh handsOn again : Bool} (own : ownKnob C.prog.godebug = none) (started : os.Started) (hfn : C.prog.funcs[f]? = some fn)
    (witness : ∃ (w : World) (tape : Tape) (i : Input), w.os = os ∧ (w.forCall tape i).Shaped C.prog ∧ i.vars = [] ∧ Input.okWide C.prog (w.forCall tape i) .any w.heap.size f i ∧ s.pre6 enc C.prog fn conds apart (w.forCall tape i).memory i.args ∧ a.holds C.prog (lone (Frame.enter C.prog f i.args .normal) [] (w.forCall tape i)))
    (runs : ∀ (W : World) (base : Nat) (args : Array Value) (ds gs : List (DataW H)) (before : List MemPlace), (∀ (j : Nat) t v, fn.params[j]? = some t → args[j]? = some v → Value.okWide C.prog W .any base t v) → DataW.Whole enc C.prog fn.params.toList s.vars apart W args.toList ds gs before → k H (ds ++ gs) = true →
      ∃ M last o w' t', runNT C.prog (M + 1) (solo (G (Frame.enter C.prog f args .normal) []) W) #[] = (.ended o w', t') ∧ runN C.prog M (solo (G (Frame.enter C.prog f args .normal) []) W) = .next last ∧ step C.prog last = .ended o w' ∧
        Go.Conc.Good C.prog (fun v W' => (s.at F).post enc C.prog fn apart fresh handsOn again W args v W') last o w' t') :
    ReturnsInLeavingWide a C os f .any (s.pre6 enc C.prog fn conds apart) ((s.at F).post enc C.prog fn apart fresh handsOn again) := by
  refine returnsInLeavingWide_of_good own started witness fun w tape i _ _ _ hok hpre _ => ?_
  obtain ⟨_, _, _, fn', hfn', _, _, _, _, hval⟩ := hok
  obtain rfl : fn' = fn := Option.some.inj (hfn'.symm.trans hfn)
  obtain ⟨ds, gs, before, hw, _, hkk⟩ := (OpenSpec.pre_some hk conds apart _ _).1 hpre.1
  obtain ⟨M, last, o, w', t', h1, h2, h3, h4⟩ := runs (w.forCall tape i) w.heap.size i.args ds gs before hval (DataW.Whole.of_heap (w' := w.forCall tape i) (by rfl) hw) hkk
  exact ⟨M, last, o, w', t', h1, h2, h3, h4.mono fun _ hp => ChangeSpec.post_blind hp⟩
end
/-- A row that says 'leaving' and bears a condition. -/
theorem holds_cond_leaving {p : Pinned} {s : OpenSpec} {c : OpenClaim} (f : FuncId) (fn : Func) (names : c.program = p.name ∧ c.sum = p.sum ∧ c.spec = s.name) (hstart : c.start = .entering) (hout : c.outside = []) (hi : c.inits = [] ∧ c.under = none ∧ c.initsInPlace = [] ∧ c.initsUnfollowed = false ∧ c.initsRecurse = false ∧ c.initsNamed = [] ∧ c.initsPassed = [])
    (hnb : c.noBlocks = false) (hlv : c.leaving = true) (hfo : c.followed = none) (hnar : c.narrowed = s.cond.isSome) (hstill : c.still = false) (hfn : p.checked.prog.funcNamed c.func = some f) (hf : p.checked.prog.funcs[f]? = some fn) (closed : joinedFacts p.checked.prog f fn s.bare c = true)
    (hinst : fn.isInstance p.checked.prog c.origin c.targs) (hwrap : fn.isWrapper p.checked.prog c.wrapper c.mainSum)
    (h : ∀ os : Os, os.Started → ∀ (H : Type) (enc : TypeId × Value → H) (F : Stop.Interp), ReturnsInLeavingWide c.assume p.checked os f .any (c.pre enc p.checked.prog fn s) ((s.at F).post enc p.checked.prog fn c.apart c.fresh c.handsOn c.again)) : c.holds p s := by
  simp only [joinedFacts, Bool.and_eq_true, beq_iff_eq, Array.all_eq_true_iff_forall_mem, List.all_eq_true, decide_eq_true_eq] at closed
  obtain ⟨⟨⟨⟨⟨⟨⟨⟨⟨⟨⟨⟨⟨⟨⟨⟨⟨⟨⟨⟨⟨⟨⟨⟨⟨⟨⟨⟨⟨⟨⟨q1, q2⟩, q3⟩, q4⟩, q5⟩, q6⟩, q7⟩, q8⟩, q9⟩, q10⟩, q11⟩, q12⟩, q13⟩, q14⟩, q15⟩, q16⟩, q17⟩, q18⟩, q19⟩, q20⟩, q21⟩, q22⟩, q23⟩, q24⟩, q25⟩, q26⟩, q27⟩, q28⟩, q29⟩, q30⟩, q31⟩, q32⟩ := closed
  have short : c.shortTexts = none := by
    cases e : c.shortTexts with
    | none => rfl
    | some _ => rw [e] at q24; cases q24
  refine ⟨q1, names.1, names.2.1, names.2.2, q2, q3, ?_, ?_, f, fn, hfn, hf, ⟨q4, q20⟩, ?_, ?_, hinst, hwrap, q6.trans q7.symm, ⟨q8.trans q9.symm, ?_, q25⟩, q10, q11, q12, q13, q14, ⟨q15, q31, q32⟩, ⟨q16, q21⟩, ⟨q17, q22, q29, q30⟩, ⟨q23, q27, q28, q18⟩, ?_, fun n hn => varReadable_some (q19 n hn), ?_, [], ?_, fun os st _ H enc _ => ?_⟩
  · unfold OpenClaim.startFits; rw [hstart]; exact q26
  · unfold OpenClaim.startTold; rw [hstart]; exact ⟨hi.1, hi.2.1, hi.2.2⟩
  · intro hb; rw [hnb] at hb; cases hb
  · unfold OpenClaim.namedList; rw [hfo]; exact q5
  · unfold Program.envWorded; rw [q9]; rfl
  · rw [hout, hnar, short]; simp
  · refine ⟨_, by unfold OpenClaim.world; rw [hout, hstart]; exact WideRow.started_initial, fun k hk => ?_⟩
    rw [q9] at hk; cases hk
  · unfold OpenClaim.lists; rw [hfo]
  · have st' : os.Started := by unfold OpenClaim.world at st; rw [hout, hstart] at st; exact st
    rw [OpenClaim.post_not_still hstill]
    unfold OpenClaim.form OpenClaim.okInput OpenClaim.atReturn OpenClaim.always
    rw [hstart, q6, hnb, hlv, hfo]
    intro F
    have := h os st' H enc F q26
    rw [hout]
    exact this
end Go.Proofs.Ytebgcemglicjiaa
