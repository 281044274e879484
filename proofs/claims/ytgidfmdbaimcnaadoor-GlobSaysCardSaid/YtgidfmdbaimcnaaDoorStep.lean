/- A call of a Go function as one step of a region that draws its order. -/
import Derived.Deep.RegionLaw
namespace Go.Proofs.YtgidfmdbaimcnaaDoor

theorem step_enter {P : Program} {ops : Array Oper} {o : Oper} {a : Act} {w : World} {K : Act → World → Prop} {Q : Exit → Act → World → Prop} {E : Prop}
    (hg : o.guard = none) (f : FuncId) (args : Array Value) (v : Value) {R : World → Prop} (hrun : (execOp a.eval o).run P w = .ok (.enter f args) w) (hc : Calls P f args w fun e w' => e = .returned v ∧ R w') (hK : ∀ w', R w' → K (a.put o.dst v) w') :
    if Region.wanted o (yielded ops a.tmps) = true then Oper.wp P o a w K Q else E := by
  have hw : Region.wanted o (yielded ops a.tmps) = true := by simp [Region.wanted, hg]
  rw [if_pos hw]
  unfold Oper.wp
  rw [hrun, Oper.upon_enter]
  exact hc.mono (fun e w' h => by obtain ⟨he, hr⟩ := h; subst he; exact hK w' hr)
theorem step_enterx {P : Program} {ops : Array Oper} {o : Oper} {a : Act} {w : World} {K : Act → World → Prop} {Q : Exit → Act → World → Prop} {E : Prop} {β : Type}
    (hg : o.guard = none) (f : FuncId) (args : Array Value) (v : β → Value) {R : β → World → Prop} (hrun : (execOp a.eval o).run P w = .ok (.enter f args) w) (hc : Calls P f args w fun e w' => ∃ b, e = .returned (v b) ∧ R b w') (hK : ∀ b w', R b w' → K (a.put o.dst (v b)) w') :
    if Region.wanted o (yielded ops a.tmps) = true then Oper.wp P o a w K Q else E := by
  have hw : Region.wanted o (yielded ops a.tmps) = true := by simp [Region.wanted, hg]
  rw [if_pos hw]
  unfold Oper.wp
  rw [hrun, Oper.upon_enter]
  exact hc.mono (fun e w' h => by obtain ⟨b, he, hr⟩ := h; subst he; exact hK b w' hr)
/-- The same, only where the operation calls f by its name. -/
theorem step_enterc {P : Program} {ops : Array Oper} {o : Oper} {a : Act} {w : World} {K : Act → World → Prop} {Q : Exit → Act → World → Prop} {E : Prop} {β : Type}
    (hg : o.guard = none) (f : FuncId) {xs : Array Operand} {ts : Array TypeId} (_ho : o.op = .call { callee := .value (.func f), args := xs, argTypes := ts }) (args : Array Value) (v : β → Value) {R : β → World → Prop} (hrun : (execOp a.eval o).run P w = .ok (.enter f args) w) (hc : Calls P f args w fun e w' => ∃ b, e = .returned (v b) ∧ R b w') (hK : ∀ b w', R b w' → K (a.put o.dst (v b)) w') :
    if Region.wanted o (yielded ops a.tmps) = true then Oper.wp P o a w K Q else E := step_enterx hg f args v hrun hc hK
end Go.Proofs.YtgidfmdbaimcnaaDoor
