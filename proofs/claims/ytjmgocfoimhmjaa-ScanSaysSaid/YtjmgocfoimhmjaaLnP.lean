/- Which operations stay (plain lists), and the builtin clear on a map of the call's own. -/
import Derived.Test.YtjmgocfoimhmjaaTypes
import Derived.Test.YtjmgocfoimhmjaaMem
import Derived.Maps.OwnOps
import Derived.Maps.Views
namespace Go.Proofs.Ytjmgocfoimhmjaa
open Go.RowKit Go.Maps

/-- The places that the writes at the head of the list say. -/
def ahd : List OpD → List Int
  | [] => []
  | o :: t => if o.Kind = 1 then o.At :: ahd t else []
/-- Whether the operation stays, ahead of the rest. -/
def stay (o : OpD) (t : List OpD) : Bool := !(decide (o.Kind = 1) && (ahd t).contains o.At)
/-- What stays. -/
def kp : List OpD → List OpD
  | [] => []
  | o :: t => if stay o t then o :: kp t else kp t

theorem kp_le : ∀ l : List OpD, (kp l).length ≤ l.length
  | [] => Nat.le_refl _
  | o :: t => by
    have := kp_le t
    unfold kp
    split <;> simp <;> omega
theorem stay_other {o : OpD} {t : List OpD} (h : ¬ o.Kind = 1) : stay o t = true := by simp [stay, h]
theorem ahd_other {o : OpD} {t : List OpD} (h : ¬ o.Kind = 1) : ahd (o :: t) = [] := by simp [ahd, h]
theorem ahd_one {o : OpD} {t : List OpD} (h : o.Kind = 1) : ahd (o :: t) = o.At :: ahd t := by simp [ahd, h]
theorem stay_not {o : OpD} {t : List OpD} (h : o.Kind = 1) (hc : (ahd t).contains o.At = true) : stay o t = false := by simp only [stay, h, hc]; rfl
theorem stay_new {o : OpD} {t : List OpD} (hc : (ahd t).contains o.At = false) : stay o t = true := by simp only [stay, hc]; simp
theorem kp_yes {o : OpD} {t : List OpD} (h : stay o t = true) : kp (o :: t) = o :: kp t := by simp [kp, h]
theorem kp_no {o : OpD} {t : List OpD} (h : stay o t = false) : kp (o :: t) = kp t := by simp [kp, h]
theorem kp_rev {o : OpD} {t : List OpD} (h : stay o t = true) : (kp (o :: t)).reverse.flatMap OpD.cells = (kp t).reverse.flatMap OpD.cells ++ [.int .i64 o.Kind, .int .i64 o.At, .string o.Text] := by
  rw [kp_yes h]; simp [OpD.cells]
theorem drop_at {α : Type} {l : List α} {k : Nat} {x : α} (h : l[k]? = some x) : l.drop k = x :: l.drop (k + 1) := by
  obtain ⟨hk, rfl⟩ := List.getElem?_eq_some_iff.1 h
  exact List.drop_eq_getElem_cons hk

section
variable {H : Type} {P : Program}
theorem run_clear_map {w : World} {k : TypeId} {R : Value → Option (DataW H × List MemPlace)} {b n : Nat} {D : DataW H} {t ty : TypeId} {e : TypeId} (h : w.ownsMap P k R b n D) (ht : P.underlying t = some (.map k e)) :
    ∃ w', (Builtin.clear_ #[t] ty #[.map (some b)]).run P w = .ok (.tuple #[]) w' ∧ w'.ownsMap P k R b 0 (.map []) ∧ w.grownBy w' (some b) := by
  obtain ⟨es, clock, hb, F, _, _⟩ := h
  refine ⟨ChangeMaps.setBlock w b (.map #[] clock), ?_, ⟨#[], clock, ChangeMaps.heap_setBlock_same hb _, ⟨by simp, MapKept.stamped_empty clock, by simp⟩, Nat.le_refl _, rfl⟩, ⟨rfl, rfl, rfl, by simp [ChangeMaps.setBlock], fun i _ hi => ChangeMaps.heap_setBlock_other hb _ (fun e => hi (by rw [e]))⟩⟩
  simp [Builtin.clear_, run_underlying ht, MapKept.run_getObj_map hb, MapKept.run_setObj_map _ hb, Result.andThen, ChangeMaps.setBlock]
/-- 'clear(m)'. -/
theorem wpList_clear_own {w : World} {ops : Array Oper} {rest : List Oper} {o : Oper} {a : Act} {Q : Exit → Act → World → Prop} (hg : o.guard = none) (m : Operand) (t : TypeId) (hop : o.op = Op.call { callee := Callee.builtin Builtin.clear, args := #[m], argTypes := #[t] })
    (k e : TypeId) (ht : P.underlying t = some (.map k e)) (R : Value → Option (DataW H × List MemPlace)) (b n : Nat) (D : DataW H) (hm : a.eval m = .map (some b)) (hown : w.ownsMap P k R b n D)
    (hK : ∀ w', w'.ownsMap P k R b 0 (.map []) → w.grownBy w' (some b) → wpList P ops Q rest (a.put o.dst (.tuple #[])) w') :
    wpList P ops Q (o :: rest) a w := by
  refine wpList_plain hg fun K' hK' => ?_
  obtain ⟨w', hrun, r1, r2⟩ := run_clear_map (ty := o.type) hown ht
  unfold Oper.wp
  simp [execOp, hop, resolve, invoke, builtin, hm, hrun, Result.andThen]
  exact hK' _ _ (hK w' r1 r2)
end

/-- What the map says of the places ahead. -/
def Says {H : Type} (D : DataW H) (xs : List Int) : Prop := ∀ x : Int, D.atKey (.int .i64 x) (.lit (.int .i64 0)) = .lit (.int .i64 (if xs.contains x then 1 else 0))
theorem says_nil {H : Type} : Says (H := H) (.map []) [] := fun _ => rfl
theorem says_add {H : Type} {D : DataW H} {xs : List Int} {y : Int} (hD : IsMap D) (h : Says D xs) : Says (D.put (.int .i64 y) (.lit (.int .i64 1))) (y :: xs) := fun x => by
  by_cases e : x = y
  · subst e; rw [atKey_put_same hD (show WideAt.IsKeyLit (.int .i64 x) from trivial)]; simp
  · rw [atKey_put_other (by simpa using e), h x]; simp [e]
theorem says_old {H : Type} {D : DataW H} {xs : List Int} {y : Int} (hc : xs.contains y = true) (h : Says D xs) : Says D (y :: xs) := fun x => by
  rw [h x]
  by_cases e : x = y
  · subst e; rw [if_pos hc]; simp
  · simp [e]
theorem lit_inj {H : Type} {d : DataW H} {a b : Int} (h : d = .lit (.int .i64 a)) (h' : d = .lit (.int .i64 b)) : a = b := by rw [h] at h'; injection h' with h'; injection h' with _ h'
theorem says_yes {H : Type} {D : DataW H} {xs : List Int} {y c : Int} (h : Says D xs) (hc : xs.contains y = true) (hat : D.atKey (.int .i64 y) (.lit (.int .i64 0)) = .lit (.int .i64 c)) : c = 1 := lit_inj hat ((h y).trans (by rw [hc]; rfl))
theorem says_no {H : Type} {D : DataW H} {xs : List Int} {y c : Int} (h : Says D xs) (hc : xs.contains y = false) (hat : D.atKey (.int .i64 y) (.lit (.int .i64 0)) = .lit (.int .i64 c)) : c = 0 := lit_inj hat ((h y).trans (by rw [hc]; rfl))
end Go.Proofs.Ytjmgocfoimhmjaa
