/- crew.all's hand, walked beside others. Printed by gen_cwx.py. No condition of ours. -/
import Derived.Test.YtebgcemglicjiaaCwJd
import Derived.Test.YtebgcemglicjiaaCwC
import Derived.Test.YtebgcemglicjiaaPrsO
import Derived.Conc.DeferLaws
import Derived.Conc.TokenWalk
import Derived.Test.YtebgcemglicjiaaCwY
namespace Go.Proofs.Ytebgcemglicjiaa
open Go.Conc Go.ConcN Go.RowKit Go.Conc.Lib Go.ConcR.Gen Go.ConcN.Gen
open Go.ConcR (KK WgAt stA smA rd wr mk DC0)
theorem actK_read {Rd own : Nat → Prop} {w : World} {es : Array Event} (h : ∀ e ∈ es, MineK Rd own e) : ActK Rd own own w w es :=
  ⟨rfl, rfl, rfl, Nat.le_refl _, fun _ _ _ => rfl, fun c h1 h2 => absurd h1 (by omega), fun _ h => .inl h, fun _ h => h, h⟩
theorem wk_op {P : Program} {main : Bool} {K : World → Prop} {Rd : Nat → Prop} {Stop : (Nat → Prop) → Goroutine → World → Prop} {own : Nat → Prop} {w : World} {b : Frame} {a a' : Act} {k : List Item} {cs : List Frame} {ops : Array Oper} {i : Nat} {rest : List Nat} {o : Oper} {v : Value}
    (ho : ops[i]? = some o) (hw : Region.wanted o (yielded ops a.tmps) = true) (hk : b.kind ≠ .early)
    (hr : ∀ w₁, Rly own w w₁ → K w₁ → ∀ Q : Result Next → Prop, Q (.ok (.value v) w₁) → Q ((execOp a.eval o).run P w₁)) (he : ∀ w₁, Rly own w w₁ → K w₁ → ∀ e ∈ (execOp a.eval o).events P w₁ #[], MineK Rd own e) (ha : a.put o.dst v = a')
    (h : WK P main K Rd Stop own (G (b.at a' (.inRegion ops rest :: k)) cs) w) : WK P main K Rd Stop own (G (b.at a (.inRegion ops (i :: rest) :: k)) cs) w := by
  subst ha
  refine WK.step fun w₁ r hK => ⟨own, _, w₁, ⟨_, stepG_value ho hw hk (hr w₁ r hK (· = _) rfl), rfl, actK_read fun e hm => he w₁ r hK e (mem_listed hm)⟩, h.rely r⟩
theorem wk_mem {P : Program} {main : Bool} {K : World → Prop} {Rd : Nat → Prop} {Stop : (Nat → Prop) → Goroutine → World → Prop} {own : Nat → Prop} {w : World} {b : Frame} {a : Act} {k : List Item} {cs : List Frame} {ops : Array Oper} {i : Nat} {rest : List Nat} {o : Oper}
    (ho : ops[i]? = some o) (hw : Region.wanted o (yielded ops a.tmps) = true) (hk : b.kind ≠ .early)
    (h : ∀ w₁, Rly own w w₁ → K w₁ → ∃ v w₂ own', ((execOp a.eval o).run P w₁ = .ok (.value v) w₂ ∨ ((execOp a.eval o).run P w₁ = .ok .skip w₂ ∧ v = undef)) ∧ ActK Rd own own' w₁ w₂ (listed P b.fn a o w₁) ∧ WK P main K Rd Stop own' (G (b.at (a.put o.dst v) (.inRegion ops rest :: k)) cs) w₂) :
    WK P main K Rd Stop own (G (b.at a (.inRegion ops (i :: rest) :: k)) cs) w := by
  refine WK.step fun w₁ r hK => ?_
  obtain ⟨v, w₂, own', hr, hA, hn⟩ := h w₁ r hK
  rcases hr with hr | ⟨hr, rfl⟩
  · exact ⟨own', _, w₂, ⟨_, stepG_value ho hw hk hr, rfl, hA⟩, hn⟩
  · exact ⟨own', _, w₂, ⟨_, stepG_none ho hw hk hr, rfl, hA⟩, hn⟩
theorem wk_enter {P : Program} {main : Bool} {K : World → Prop} {Rd : Nat → Prop} {Stop : (Nat → Prop) → Goroutine → World → Prop} {own : Nat → Prop} {w : World} {b : Frame} {a : Act} {k : List Item} {cs : List Frame} {ops : Array Oper} {i : Nat} {rest : List Nat} {o : Oper} {f : FuncId} {args : Array Value}
    (ho : ops[i]? = some o) (hw : Region.wanted o (yielded ops a.tmps) = true) (hk : b.kind ≠ .early) (hr : ∀ w₁, (execOp a.eval o).run P w₁ = .ok (.enter f args) w₁) (he : ∀ w₁, (execOp a.eval o).events P w₁ #[] = #[])
    (h : WK P main K Rd Stop own (G (Frame.enter P f args .normal) (b.at a (.inRegion ops (i :: rest) :: k) :: cs)) w) : WK P main K Rd Stop own (G (b.at a (.inRegion ops (i :: rest) :: k)) cs) w :=
  WK.silent rfl (fun w₁ _ _ => by rw [stepG_enter ho hw hk (hr w₁), listed_none (he w₁)]) h
theorem alloc_at (w : World) (ob : Obj) : (w.alloc ob).heap[w.heap.size]? = some ob ∧ (w.alloc ob).heap.size = w.heap.size + 1 :=
  ⟨by show (w.heap.push ob)[w.heap.size]? = some ob; rw [Array.getElem?_push, if_pos rfl], by show (w.heap.push ob).size = _; rw [Array.size_push]⟩
/-- New memory is one's own. -/
theorem actK_alloc {Rd own : Nat → Prop} {w : World} {ob : Obj} {es : Array Event} (h : ∀ e ∈ es, MineK Rd (fun b => own b ∨ b = w.heap.size) e) : ActK Rd own (fun b => own b ∨ b = w.heap.size) w (w.alloc ob) es where
  tape := rfl
  os := rfl
  output := rfl
  size := by show w.heap.size ≤ (w.heap.push ob).size; simp
  others c hc _ := by show (w.heap.push ob)[c]? = _; rw [Array.getElem?_push, if_neg (by omega)]
  mine c h1 h2 := by have h2' : c < (w.heap.push ob).size := h2; simp at h2'; exact .inr (by omega)
  new c hc := hc.elim .inl fun h => .inr ⟨by omega, by show c < (w.heap.push ob).size; simp; omega⟩
  old c hc := .inl hc
  evs := h
/-- A turn of a block of one's own. -/
theorem actK_own {Rd own : Nat → Prop} {w w₁ : World} {N : Nat} {es : Array Event} (hN : own N) (h1 : Go.Conc.Aside N w w₁) (h : ∀ e ∈ es, MineK Rd own e) : ActK Rd own own w w₁ es where
  tape := h1.tape
  os := h1.os
  output := h1.output
  size := by rw [h1.size]; exact Nat.le_refl _
  others c _ hc := h1.block c fun e => hc (e ▸ hN)
  mine c a b := absurd b (by rw [h1.size]; omega)
  new c hc := .inl hc
  old c hc := hc
  evs := h
/-- The hand's frame, and what lies under it. -/
def hb : Frame := baseD 14
noncomputable def hbot : Frame := { (default : Frame) with fn := Try.prog.funcs.size, defers := [], mode := .panicking [goexitEntry] }
noncomputable def hbody : Code := Try.f14.body.getD .skip
def hcall (Wg Bj Bd Bo : Nat) : Deferred := { target := .fn (.func 14) #[.pointer (some ⟨Wg, 0, none⟩), .pointer (some ⟨Bj, 0, none⟩), .pointer (some ⟨Bd, 0, none⟩), .pointer (some ⟨Bo, 0, none⟩)], args := #[] }
theorem hborn (Wg Bj Bd Bo : Nat) (w : World) : stepG Try.prog false (born Try.prog (hcall Wg Bj Bd Bo)) w =
    .go (G (hb.at ⟨#[.pointer (some ⟨Wg, 0, none⟩), .pointer (some ⟨Bj, 0, none⟩), .pointer (some ⟨Bd, 0, none⟩), .pointer (some ⟨Bo, 0, none⟩), undef, undef, undef, undef, undef, undef, undef, undef, undef, undef, undef, undef, undef, undef, undef, undef, undef, undef, undef, undef, undef], []⟩ [.code hbody]) [hbot]) w #[] := by
  simp [born, hcall, stepG, unwind, callDeferred, invoke, callFunc, Try.func14, Try.f14, seen, GStep.after, G, Frame.enter, Frame.at, hb, baseD, hbot, hbody]
theorem hquits (T : Array Value) : Quit Try.prog 0 (G { hb.at ⟨T, []⟩ [] with mode := .returning } [hbot]) := by
  refine ⟨2, QuitsD.ctl (g' := G hbot []) rfl (fun w => ?_) ?_⟩
  · simp [G, stepG, unwind, doReturn, results, Frame.at, hb, baseD, hbot, Try.func14, Try.f14, seen, GStep.after, goexitEntry]
  refine QuitsD.ctl (g' := { G hbot [] with status := .finished }) rfl (fun w => ?_) ⟨rfl, rfl⟩
  simp [G, stepG, unwind, hbot, goexitEntry, Frame.catches]
  rfl
theorem stepG_recv {P : Program} {main : Bool} {w : World} {b : Frame} {a : Act} {k : List Item} {cs : List Frame} {ops : Array Oper} {i : Nat} {rest : List Nat} {o : Oper} {ct e : TypeId} {x : Operand} {ok : Bool} {ch : Nat} {z : Value} {dir : ChanDir}
    (ho : ops[i]? = some o) (hw : Region.wanted o (yielded ops a.tmps) = true) (hk : b.kind ≠ .early) (hop : o.op = .recv ct x ok) (hx : a.eval x = .chan (some ch)) (hu : P.underlying ct = some (.chan dir e)) (hz : ∀ w, (zeroValue e).run P w = .ok z w) (hze : ∀ w es, (zeroValue e).events P w es = es) :
    stepG P main (G (b.at a (.inRegion ops (i :: rest) :: k)) cs) w = .comm (G (b.at a (.inRegion ops (i :: rest) :: k)) cs) #[rcase ch z] true (.recv ok) w #[] := by
  rw [stepG_comm (cases := #[rcase ch z]) (blocking := true) (shape := .recv ok) (w' := w) ho hw hk]
  · rw [listed_none]
    unfold execOp
    simp only [hop, hx]
    simp [run_underlying hu, hze, Result.evThen]
  · unfold execOp
    simp only [hop, hx]
    simp [run_underlying hu, hz, rcase, Result.andThen]
theorem array25 (T : Array Value) (h : T.size = 25) : ∃ v0 v1 v2 v3 v4 v5 v6 v7 v8 v9 v10 v11 v12 v13 v14 v15 v16 v17 v18 v19 v20 v21 v22 v23 v24, T = #[v0, v1, v2, v3, v4, v5, v6, v7, v8, v9, v10, v11, v12, v13, v14, v15, v16, v17, v18, v19, v20, v21, v22, v23, v24] := by
  obtain ⟨l⟩ := T
  match l, h with
  | [v0, v1, v2, v3, v4, v5, v6, v7, v8, v9, v10, v11, v12, v13, v14, v15, v16, v17, v18, v19, v20, v21, v22, v23, v24], _ => exact ⟨v0, v1, v2, v3, v4, v5, v6, v7, v8, v9, v10, v11, v12, v13, v14, v15, v16, v17, v18, v19, v20, v21, v22, v23, v24, rfl⟩
noncomputable def hloop : Code := match hbody with | .seq _ (.seq _ (.block _ (.loop c))) => c | _ => .skip
noncomputable def hops : Array Oper := match hloop with | .seq (.region _ ops _) _ => ops | _ => #[]
noncomputable def hrest : Code := match hloop with | .seq _ r => r | _ => .skip
/-- What crew.all has laid for its hands. -/
structure Laid (c : Cfg) (Bj Bd Bo : Nat) (ts : Nat → ByteArray) : Prop where
  ok : c.Ok
  rj : c.Rd Bj
  rd : c.Rd Bd
  ro : c.Rd Bo
  cj : c.w0.cell? ⟨Bj, 0, none⟩ = some (.chan (some c.Ch))
  cd : c.w0.cell? ⟨Bd, 0, none⟩ = some (.func (.func 9) #[] #[])
  co : c.w0.cell? ⟨Bo, 0, none⟩ = some (.slice (some ⟨c.Ob, 0, none⟩) c.n c.n)
  ty : c.ty = 54
  oty : c.oty = 34
  job : ∀ a, a < c.n → c.jobv a = .agg #[.int .i64 a, .string (ts a)]
  call : ∀ a, a < c.n → ∀ w, Calls Try.prog 9 #[.string (ts a)] w fun e _ => e = .returned (.tuple #[c.ansA a, c.ansB a])
  ansA : ∀ a, a < c.n → ∃ s, c.ansA a = .string s
  ansB : ∀ a, a < c.n → ∃ x, c.ansB a = .int .i64 x
  glob : Try.prog.globals.size ≤ c.B
  n16 : c.n ≤ 16
theorem Cfg.K.cell {c : Cfg} {w : World} {b : Nat} (h : c.K w) (hb : c.Rd b) : w.cell? ⟨b, 0, none⟩ = c.w0.cell? ⟨b, 0, none⟩ := Go.ConcN.cell_of_block (h.1 b hb) 0
/-- At the receive. -/
def AnchH (c : Cfg) (Bj Bd Bo : Nat) (own : Nat → Prop) (g : Goroutine) (w : World) : Prop :=
  ∃ T : Array Value, g = G (hb.at ⟨T, [dcall 15 #[.pointer (some ⟨c.Wg, 0, none⟩)]]⟩ [.inRegion hops [0, 1], .code hrest, .inLoop hloop, .inBlock 0]) [hbot] ∧ T.size = 25 ∧ T[0]? = some (.pointer (some ⟨c.Wg, 0, none⟩)) ∧ T[1]? = some (.pointer (some ⟨Bj, 0, none⟩)) ∧
    T[2]? = some (.pointer (some ⟨Bd, 0, none⟩)) ∧ T[3]? = some (.pointer (some ⟨Bo, 0, none⟩)) ∧ T[7]? = some (.chan (some c.Ch)) ∧ c.B ≤ w.heap.size ∧ ∀ b, own b → b < w.heap.size
section
variable {c : Cfg} {Bj Bd Bo : Nat} {ts : Nat → ByteArray} {w : World}
set_option maxRecDepth 100000 in
set_option maxHeartbeats 4000000 in
theorem hand_child (H0 : Laid c Bj Bd Bo ts) (hB : c.B ≤ w.heap.size) : Child Try.prog c (AnchH c Bj Bd Bo) (born Try.prog (hcall c.Wg Bj Bd Bo)) w := by
  refine WK.silent rfl (fun w₁ _ _ => hborn c.Wg Bj Bd Bo w₁) ?_
  have H := wgLib
  let L := link
  simp only [hbody, Try.f14, Option.getD_some]
  obtain ⟨Y, hY⟩ : ∃ Y, Y = (fun bq aq kq cq => WK Try.prog false c.K c.Rd (AnchH c Bj Bd Bo) (fun _ => False) (G (Frame.at bq aq kq) cq) w) := ⟨_, rfl⟩
  obtain ⟨Z, hZ⟩ : ∃ Z, Z = (fun bq aq kq cq => WK Try.prog false c.K c.Rd (AnchH c Bj Bd Bo) (fun _ => False) (G { Frame.at bq aq kq with mode := .returning } cq) w) := ⟨_, rfl⟩
  have S : Sil Try.prog false (fun w₁ => Rly (fun _ => False) w w₁ ∧ c.K w₁) Y Z := by rw [hY, hZ]; exact sil_wk _ w
  suffices h : Y _ _ _ _ by rw [hY] at h; exact h
  repeat (first
    | refine sl_done S ?_
    | refine sl_seq S ?_
    | refine sl_skip S ?_
    | (co_apply sl_region S (by simp only [List.size_toArray, List.length_cons, List.length_nil, Nat.zero_add, List.range, List.range.loop]; exact rfl))
    | refine sl_true S rfl ?_
    | refine sl_false S rfl ?_
    | refine sl_ret S ?_
    | refine sl_block S ?_
    | refine sl_loop S ?_
    | refine sl_inBlock S ?_
    | refine sl_inLoop S ?_
    | (refine sl_exit S (k' := _) rfl ?_)
    | refine sl_end S ?_
    | (co_apply sl_off S rfl rfl; (focus (walk_nrm; exact rfl)))
    | (co_apply sl_defer S rfl rfl (by k_ne) rfl; (focus (walk_nrm; exact rfl)))
    | (co_apply sl_call S rfl rfl (by k_ne) rfl H.f_uAdd (nm_uAdd L) rfl; (focus (walk_nrmf uAddFn; exact rfl)))
    | (co_apply sl_call S rfl rfl (by k_ne) rfl H.f_uLoad (nm_uLoad L) rfl; (focus (walk_nrmf uLoadFn; exact rfl)))
    | (co_apply sl_call S rfl rfl (by k_ne) rfl H.f_uStore (nm_uStore L) rfl; (focus (walk_nrmf uStoreFn; exact rfl)))
    | (co_apply sl_call S rfl rfl (by k_ne) rfl H.f_uCas (nm_uCas L) rfl; (focus (walk_nrmf uCasFn; exact rfl)))
    | (co_apply sl_entry S (.bool false) rfl rfl (by k_ne) rfl H.f_inBubble (x_inBubble_n L) (x_inBubble_b L) (x_inBubble_x L) (x_inBubble_f L); (focus (walk_nrm; exact rfl)))
    | (co_apply sl_leave1 S rfl rfl H.f_uAdd rfl; (focus (walk_nrm; exact rfl)))
    | (co_apply sl_leave1 S rfl rfl H.f_uLoad rfl; (focus (walk_nrm; exact rfl)))
    | (co_apply sl_leave1 S rfl rfl H.f_uCas rfl; (focus (walk_nrm; exact rfl)))
    | (co_apply sl_leave0 S rfl rfl H.f_uStore rfl; (focus (walk_nrm; exact rfl)))
    | (co_apply sl_op S rfl rfl (by k_ne); (focus (intro W _ K hK; go_simp; (try w_num); exact hK)); (focus (intro W _; simp [go_sem, *])); (focus (walk_nrm; exact rfl))))
  rw [hY]
  refine wk_op rfl rfl (by k_ne) (v := .chan (some c.Ch)) (fun w₁ r hK Q hQ => ?_) (fun w₁ r hK e he => ?_) (by walk_nrm; exact rfl) ?_
  · have hc := (hK.cell H0.rj).trans H0.cj
    go_simp
    exact hQ
  · have hc := (hK.cell H0.rj).trans H0.cj
    simp [go_sem, hc] at he
    subst he
    exact .inr ⟨_, rfl, H0.rj⟩
  suffices h : Y _ _ _ _ by rw [hY] at h; exact h
  repeat (first
    | refine sl_done S ?_
    | refine sl_seq S ?_
    | refine sl_skip S ?_
    | (co_apply sl_region S (by simp only [List.size_toArray, List.length_cons, List.length_nil, Nat.reduceAdd, Nat.zero_add, List.range, List.range.loop]; exact rfl))
    | refine sl_true S rfl ?_
    | refine sl_false S rfl ?_
    | refine sl_ret S ?_
    | refine sl_block S ?_
    | refine sl_loop S ?_
    | refine sl_inBlock S ?_
    | refine sl_inLoop S ?_
    | (refine sl_exit S (k' := _) rfl ?_)
    | refine sl_end S ?_
    | (co_apply sl_off S rfl rfl; (focus (walk_nrm; exact rfl)))
    | (co_apply sl_defer S rfl rfl (by k_ne) rfl; (focus (walk_nrm; exact rfl)))
    | (co_apply sl_call S rfl rfl (by k_ne) rfl H.f_uAdd (nm_uAdd L) rfl; (focus (walk_nrmf uAddFn; exact rfl)))
    | (co_apply sl_call S rfl rfl (by k_ne) rfl H.f_uLoad (nm_uLoad L) rfl; (focus (walk_nrmf uLoadFn; exact rfl)))
    | (co_apply sl_call S rfl rfl (by k_ne) rfl H.f_uStore (nm_uStore L) rfl; (focus (walk_nrmf uStoreFn; exact rfl)))
    | (co_apply sl_call S rfl rfl (by k_ne) rfl H.f_uCas (nm_uCas L) rfl; (focus (walk_nrmf uCasFn; exact rfl)))
    | (co_apply sl_entry S (.bool false) rfl rfl (by k_ne) rfl H.f_inBubble (x_inBubble_n L) (x_inBubble_b L) (x_inBubble_x L) (x_inBubble_f L); (focus (walk_nrm; exact rfl)))
    | (co_apply sl_leave1 S rfl rfl H.f_uAdd rfl; (focus (walk_nrm; exact rfl)))
    | (co_apply sl_leave1 S rfl rfl H.f_uLoad rfl; (focus (walk_nrm; exact rfl)))
    | (co_apply sl_leave1 S rfl rfl H.f_uCas rfl; (focus (walk_nrm; exact rfl)))
    | (co_apply sl_leave0 S rfl rfl H.f_uStore rfl; (focus (walk_nrm; exact rfl)))
    | (co_apply sl_op S rfl rfl (by k_ne); (focus (intro W _ K hK; go_simp; (try w_num); exact hK)); (focus (intro W _; simp [go_sem, *])); (focus (walk_nrm; exact rfl))))
  rw [hY]
  exact WK.stop fun w₁ r hK => ⟨_, rfl, rfl, rfl, rfl, rfl, rfl, rfl, Nat.le_trans hB r.size, fun _ h => h.elim⟩
set_option maxRecDepth 100000 in
set_option maxHeartbeats 4000000 in
theorem hand_anch (H0 : Laid c Bj Bd Bo ts) {own : Nat → Prop} {g : Goroutine} (h : AnchH c Bj Bd Bo own g w) : AtRecv Try.prog c (AnchH c Bj Bd Bo) own g w := by
  obtain ⟨T, rfl, hT, t0, t1, t2, t3, t7, hB, hown⟩ := h
  obtain ⟨v0, v1, v2, v3, v4, v5, v6, v7, v8, v9, v10, v11, v12, v13, v14, v15, v16, v17, v18, v19, v20, v21, v22, v23, v24, rfl⟩ := array25 T hT
  simp only [List.getElem?_toArray, List.getElem?_cons_zero, List.getElem?_cons_succ, Option.some.injEq] at t0 t1 t2 t3 t7
  subst t0 t1 t2 t3 t7
  have H := wgLib
  let L := link
  simp only [hops, hrest, hloop, hbody, Try.f14, Option.getD_some]
  refine ⟨rfl, .agg #[.int .i64 0, .string ⟨#[]⟩], _, .recv true, stepG_recv rfl rfl (by k_ne) rfl (by simp [Act.eval]) Try.underlying43 Try.zeroValue45 (fun w es => by simp [go_sem]), fun a ha => ?_, ?_⟩
  · rw [finishComm_recv]
    show WK _ _ _ _ _ own (G (Frame.finish (Frame.at hb _ _) _) [hbot]) w
    rw [Frame.finish_at, H0.job a ha]
    simp only [recvd, if_true]
    walk_nrm
    obtain ⟨Y, hY⟩ : ∃ Y, Y = (fun bq aq kq cq => WK Try.prog false c.K c.Rd (AtStore Try.prog c (AnchH c Bj Bd Bo) a) own (G (Frame.at bq aq kq) cq) w) := ⟨_, rfl⟩
    obtain ⟨Z, hZ⟩ : ∃ Z, Z = (fun bq aq kq cq => WK Try.prog false c.K c.Rd (AtStore Try.prog c (AnchH c Bj Bd Bo) a) own (G { Frame.at bq aq kq with mode := .returning } cq) w) := ⟨_, rfl⟩
    have S : Sil Try.prog false (fun wq => Rly own w wq ∧ c.K wq) Y Z := by rw [hY, hZ]; exact sil_wk _ w
    suffices h : Y _ _ _ _ by rw [hY] at h; exact h
    repeat (first
      | refine sl_done S ?_
      | refine sl_seq S ?_
      | refine sl_skip S ?_
      | (co_apply sl_region S (by simp only [List.size_toArray, List.length_cons, List.length_nil, Nat.reduceAdd, Nat.zero_add, List.range, List.range.loop]; exact rfl))
      | refine sl_true S rfl ?_
      | refine sl_false S rfl ?_
      | refine sl_ret S ?_
      | refine sl_block S ?_
      | refine sl_loop S ?_
      | refine sl_inBlock S ?_
      | refine sl_inLoop S ?_
      | (refine sl_exit S (k' := _) rfl ?_)
      | refine sl_end S ?_
      | (co_apply sl_off S rfl rfl; (focus (walk_nrm; exact rfl)))
      | (co_apply sl_defer S rfl rfl (by k_ne) rfl; (focus (walk_nrm; exact rfl)))
      | (co_apply sl_call S rfl rfl (by k_ne) rfl H.f_uAdd (nm_uAdd L) rfl; (focus (walk_nrmf uAddFn; exact rfl)))
      | (co_apply sl_call S rfl rfl (by k_ne) rfl H.f_uLoad (nm_uLoad L) rfl; (focus (walk_nrmf uLoadFn; exact rfl)))
      | (co_apply sl_call S rfl rfl (by k_ne) rfl H.f_uStore (nm_uStore L) rfl; (focus (walk_nrmf uStoreFn; exact rfl)))
      | (co_apply sl_call S rfl rfl (by k_ne) rfl H.f_uCas (nm_uCas L) rfl; (focus (walk_nrmf uCasFn; exact rfl)))
      | (co_apply sl_entry S (.bool false) rfl rfl (by k_ne) rfl H.f_inBubble (x_inBubble_n L) (x_inBubble_b L) (x_inBubble_x L) (x_inBubble_f L); (focus (walk_nrm; exact rfl)))
      | (co_apply sl_leave1 S rfl rfl H.f_uAdd rfl; (focus (walk_nrm; exact rfl)))
      | (co_apply sl_leave1 S rfl rfl H.f_uLoad rfl; (focus (walk_nrm; exact rfl)))
      | (co_apply sl_leave1 S rfl rfl H.f_uCas rfl; (focus (walk_nrm; exact rfl)))
      | (co_apply sl_leave0 S rfl rfl H.f_uStore rfl; (focus (walk_nrm; exact rfl)))
      | (co_apply sl_op S rfl rfl (by k_ne); (focus (intro W _ K hK; go_simp; (try w_num); exact hK)); (focus (intro W _; simp [go_sem, *])); (focus (walk_nrm; exact rfl))))
    rw [hY]
    refine wk_mem rfl rfl (by k_ne) fun w₁ r hK => ⟨.pointer (some ⟨w₁.heap.size, 0, none⟩), w₁.alloc (.cells #[.int .i64 0, .string ⟨#[]⟩] 45), _, .inl (by go_simp), actK_alloc (fun e he => by have hm := mem_listed he; simp [go_sem] at hm), ?_⟩
    have hb1 : (w₁.alloc (.cells #[.int .i64 0, .string ⟨#[]⟩] 45)).heap[w₁.heap.size]? = some (.cells #[.int .i64 0, .string ⟨#[]⟩] 45) := (alloc_at _ _).1
    have hs1 : (w₁.alloc (.cells #[.int .i64 0, .string ⟨#[]⟩] 45)).heap.size = w₁.heap.size + 1 := (alloc_at _ _).2
    have hN : c.B ≤ w₁.heap.size := Nat.le_trans hB r.size
    have hoN : ∀ b, own b → b < w₁.heap.size := fun b h => Nat.lt_of_lt_of_le (hown b h) r.size
    clear hK r hY hZ S Y Z
    generalize w₁.alloc (.cells #[.int .i64 0, .string ⟨#[]⟩] 45) = w₂ at hb1 hs1 ⊢
    generalize w₁.heap.size = N at hb1 hs1 hN hoN ⊢
    walk_nrm
    obtain ⟨Y, hY⟩ : ∃ Y, Y = (fun bq aq kq cq => WK Try.prog false c.K c.Rd (AtStore Try.prog c (AnchH c Bj Bd Bo) a) (fun b => own b ∨ b = N) (G (Frame.at bq aq kq) cq) w₂) := ⟨_, rfl⟩
    obtain ⟨Z, hZ⟩ : ∃ Z, Z = (fun bq aq kq cq => WK Try.prog false c.K c.Rd (AtStore Try.prog c (AnchH c Bj Bd Bo) a) (fun b => own b ∨ b = N) (G { Frame.at bq aq kq with mode := .returning } cq) w₂) := ⟨_, rfl⟩
    have S : Sil Try.prog false (fun wq => Rly (fun b => own b ∨ b = N) w₂ wq ∧ c.K wq) Y Z := by rw [hY, hZ]; exact sil_wk _ w₂
    suffices h : Y _ _ _ _ by rw [hY] at h; exact h
    repeat (first
      | refine sl_done S ?_
      | refine sl_seq S ?_
      | refine sl_skip S ?_
      | (co_apply sl_region S (by simp only [List.size_toArray, List.length_cons, List.length_nil, Nat.reduceAdd, Nat.zero_add, List.range, List.range.loop]; exact rfl))
      | refine sl_true S rfl ?_
      | refine sl_false S rfl ?_
      | refine sl_ret S ?_
      | refine sl_block S ?_
      | refine sl_loop S ?_
      | refine sl_inBlock S ?_
      | refine sl_inLoop S ?_
      | (refine sl_exit S (k' := _) rfl ?_)
      | refine sl_end S ?_
      | (co_apply sl_off S rfl rfl; (focus (walk_nrm; exact rfl)))
      | (co_apply sl_defer S rfl rfl (by k_ne) rfl; (focus (walk_nrm; exact rfl)))
      | (co_apply sl_call S rfl rfl (by k_ne) rfl H.f_uAdd (nm_uAdd L) rfl; (focus (walk_nrmf uAddFn; exact rfl)))
      | (co_apply sl_call S rfl rfl (by k_ne) rfl H.f_uLoad (nm_uLoad L) rfl; (focus (walk_nrmf uLoadFn; exact rfl)))
      | (co_apply sl_call S rfl rfl (by k_ne) rfl H.f_uStore (nm_uStore L) rfl; (focus (walk_nrmf uStoreFn; exact rfl)))
      | (co_apply sl_call S rfl rfl (by k_ne) rfl H.f_uCas (nm_uCas L) rfl; (focus (walk_nrmf uCasFn; exact rfl)))
      | (co_apply sl_entry S (.bool false) rfl rfl (by k_ne) rfl H.f_inBubble (x_inBubble_n L) (x_inBubble_b L) (x_inBubble_x L) (x_inBubble_f L); (focus (walk_nrm; exact rfl)))
      | (co_apply sl_leave1 S rfl rfl H.f_uAdd rfl; (focus (walk_nrm; exact rfl)))
      | (co_apply sl_leave1 S rfl rfl H.f_uLoad rfl; (focus (walk_nrm; exact rfl)))
      | (co_apply sl_leave1 S rfl rfl H.f_uCas rfl; (focus (walk_nrm; exact rfl)))
      | (co_apply sl_leave0 S rfl rfl H.f_uStore rfl; (focus (walk_nrm; exact rfl)))
      | (co_apply sl_op S rfl rfl (by k_ne); (focus (intro W _ K hK; go_simp; (try w_num); exact hK)); (focus (intro W _; simp [go_sem, *])); (focus (walk_nrm; exact rfl))))
    rw [hY]
    clear hY hZ S Y Z
    refine WK.step fun w₃ r hK => ⟨fun b => own b ∨ b = N, _, _, ⟨_, stepG_two (w := w₃) rfl rfl (by k_ne) rfl rfl rfl ((r.kept N (.inr rfl)).trans hb1) (by simp) rfl rfl Try.sizeOf45 (fun w es => by simp [go_sem]) (by kernel_rfl), rfl, actK_own (.inr rfl) (Go.Conc.Aside.put N w₃ _) (fun e he => ?_)⟩, ?_⟩
    · simp at he
      rcases he with rfl | rfl
      · exact .inl (.inl ⟨_, _, rfl, .inr rfl⟩)
      · exact .inl (.inl ⟨_, _, rfl, .inr rfl⟩)
    have hb2 : ({ w₃ with heap := w₃.heap.setIfInBounds N (.cells (((#[.int .i64 0, .string ⟨#[]⟩] : Array Value).setIfInBounds 0 (.int .i64 a)).setIfInBounds (0 + 1) (.string (ts a))) 45) } : World).heap[N]? = some (.cells #[.int .i64 a, .string (ts a)] 45) := heap_put ((r.kept N (.inr rfl)).trans hb1)
    have hs2 : w₂.heap.size ≤ ({ w₃ with heap := w₃.heap.setIfInBounds N (.cells (((#[.int .i64 0, .string ⟨#[]⟩] : Array Value).setIfInBounds 0 (.int .i64 a)).setIfInBounds (0 + 1) (.string (ts a))) 45) } : World).heap.size := by show w₂.heap.size ≤ (w₃.heap.setIfInBounds N _).size; rw [Array.size_setIfInBounds]; exact r.size
    clear hK r hb1
    generalize ({ w₃ with heap := w₃.heap.setIfInBounds N (.cells (((#[.int .i64 0, .string ⟨#[]⟩] : Array Value).setIfInBounds 0 (.int .i64 a)).setIfInBounds (0 + 1) (.string (ts a))) 45) } : World) = w₄ at hb2 hs2 ⊢
    walk_nrm
    obtain ⟨Y, hY⟩ : ∃ Y, Y = (fun bq aq kq cq => WK Try.prog false c.K c.Rd (AtStore Try.prog c (AnchH c Bj Bd Bo) a) (fun b => own b ∨ b = N) (G (Frame.at bq aq kq) cq) w₄) := ⟨_, rfl⟩
    obtain ⟨Z, hZ⟩ : ∃ Z, Z = (fun bq aq kq cq => WK Try.prog false c.K c.Rd (AtStore Try.prog c (AnchH c Bj Bd Bo) a) (fun b => own b ∨ b = N) (G { Frame.at bq aq kq with mode := .returning } cq) w₄) := ⟨_, rfl⟩
    have S : Sil Try.prog false (fun wq => Rly (fun b => own b ∨ b = N) w₄ wq ∧ c.K wq) Y Z := by rw [hY, hZ]; exact sil_wk _ w₄
    suffices h : Y _ _ _ _ by rw [hY] at h; exact h
    repeat (first
      | refine sl_done S ?_
      | refine sl_seq S ?_
      | refine sl_skip S ?_
      | (co_apply sl_region S (by simp only [List.size_toArray, List.length_cons, List.length_nil, Nat.reduceAdd, Nat.zero_add, List.range, List.range.loop]; exact rfl))
      | refine sl_true S rfl ?_
      | refine sl_false S rfl ?_
      | refine sl_ret S ?_
      | refine sl_block S ?_
      | refine sl_loop S ?_
      | refine sl_inBlock S ?_
      | refine sl_inLoop S ?_
      | (refine sl_exit S (k' := _) rfl ?_)
      | refine sl_end S ?_
      | (co_apply sl_off S rfl rfl; (focus (walk_nrm; exact rfl)))
      | (co_apply sl_defer S rfl rfl (by k_ne) rfl; (focus (walk_nrm; exact rfl)))
      | (co_apply sl_call S rfl rfl (by k_ne) rfl H.f_uAdd (nm_uAdd L) rfl; (focus (walk_nrmf uAddFn; exact rfl)))
      | (co_apply sl_call S rfl rfl (by k_ne) rfl H.f_uLoad (nm_uLoad L) rfl; (focus (walk_nrmf uLoadFn; exact rfl)))
      | (co_apply sl_call S rfl rfl (by k_ne) rfl H.f_uStore (nm_uStore L) rfl; (focus (walk_nrmf uStoreFn; exact rfl)))
      | (co_apply sl_call S rfl rfl (by k_ne) rfl H.f_uCas (nm_uCas L) rfl; (focus (walk_nrmf uCasFn; exact rfl)))
      | (co_apply sl_entry S (.bool false) rfl rfl (by k_ne) rfl H.f_inBubble (x_inBubble_n L) (x_inBubble_b L) (x_inBubble_x L) (x_inBubble_f L); (focus (walk_nrm; exact rfl)))
      | (co_apply sl_leave1 S rfl rfl H.f_uAdd rfl; (focus (walk_nrm; exact rfl)))
      | (co_apply sl_leave1 S rfl rfl H.f_uLoad rfl; (focus (walk_nrm; exact rfl)))
      | (co_apply sl_leave1 S rfl rfl H.f_uCas rfl; (focus (walk_nrm; exact rfl)))
      | (co_apply sl_leave0 S rfl rfl H.f_uStore rfl; (focus (walk_nrm; exact rfl)))
      | (co_apply sl_op S rfl rfl (by k_ne); (focus (intro W _ K hK; go_simp; (try w_num); exact hK)); (focus (intro W _; simp [go_sem, *])); (focus (walk_nrm; exact rfl))))
    rw [hY]
    refine wk_op rfl rfl (by k_ne) (v := .func (.func 9) #[] #[]) (fun w₁ r hK Q hQ => ?_) (fun w₁ r hK e he => ?_) (by walk_nrm; exact rfl) ?_
    · have hc := (hK.cell H0.rd).trans H0.cd
      go_simp
      exact hQ
    · have hc := (hK.cell H0.rd).trans H0.cd
      simp [go_sem, hc] at he
      subst he
      exact .inr ⟨_, rfl, H0.rd⟩
    suffices h : Y _ _ _ _ by rw [hY] at h; exact h
    repeat (first
      | refine sl_done S ?_
      | refine sl_seq S ?_
      | refine sl_skip S ?_
      | (co_apply sl_region S (by simp only [List.size_toArray, List.length_cons, List.length_nil, Nat.reduceAdd, Nat.zero_add, List.range, List.range.loop]; exact rfl))
      | refine sl_true S rfl ?_
      | refine sl_false S rfl ?_
      | refine sl_ret S ?_
      | refine sl_block S ?_
      | refine sl_loop S ?_
      | refine sl_inBlock S ?_
      | refine sl_inLoop S ?_
      | (refine sl_exit S (k' := _) rfl ?_)
      | refine sl_end S ?_
      | (co_apply sl_off S rfl rfl; (focus (walk_nrm; exact rfl)))
      | (co_apply sl_defer S rfl rfl (by k_ne) rfl; (focus (walk_nrm; exact rfl)))
      | (co_apply sl_call S rfl rfl (by k_ne) rfl H.f_uAdd (nm_uAdd L) rfl; (focus (walk_nrmf uAddFn; exact rfl)))
      | (co_apply sl_call S rfl rfl (by k_ne) rfl H.f_uLoad (nm_uLoad L) rfl; (focus (walk_nrmf uLoadFn; exact rfl)))
      | (co_apply sl_call S rfl rfl (by k_ne) rfl H.f_uStore (nm_uStore L) rfl; (focus (walk_nrmf uStoreFn; exact rfl)))
      | (co_apply sl_call S rfl rfl (by k_ne) rfl H.f_uCas (nm_uCas L) rfl; (focus (walk_nrmf uCasFn; exact rfl)))
      | (co_apply sl_entry S (.bool false) rfl rfl (by k_ne) rfl H.f_inBubble (x_inBubble_n L) (x_inBubble_b L) (x_inBubble_x L) (x_inBubble_f L); (focus (walk_nrm; exact rfl)))
      | (co_apply sl_leave1 S rfl rfl H.f_uAdd rfl; (focus (walk_nrm; exact rfl)))
      | (co_apply sl_leave1 S rfl rfl H.f_uLoad rfl; (focus (walk_nrm; exact rfl)))
      | (co_apply sl_leave1 S rfl rfl H.f_uCas rfl; (focus (walk_nrm; exact rfl)))
      | (co_apply sl_leave0 S rfl rfl H.f_uStore rfl; (focus (walk_nrm; exact rfl)))
      | (co_apply sl_op S rfl rfl (by k_ne); (focus (intro W _ K hK; go_simp; (try w_num); exact hK)); (focus (intro W _; simp [go_sem, *])); (focus (walk_nrm; exact rfl))))
    rw [hY]
    refine wk_op rfl rfl (by k_ne) (v := .string (ts a)) (fun w₁ r hK Q hQ => ?_) (fun w₁ r hK e he => ?_) (by walk_nrm; exact rfl) ?_
    · have hc : w₁.cell? ⟨N, 1, none⟩ = some (.string (ts a)) := (Go.ConcN.cell_of_block (r.kept N (.inr rfl)) 1).trans (by simp [World.cell?, hb2])
      go_simp
      exact hQ
    · have hc : w₁.cell? ⟨N, 1, none⟩ = some (.string (ts a)) := (Go.ConcN.cell_of_block (r.kept N (.inr rfl)) 1).trans (by simp [World.cell?, hb2])
      simp [go_sem, hc] at he
      subst he
      exact .inl (.inl ⟨_, _, rfl, .inr rfl⟩)
    refine wk_enter rfl rfl (by k_ne) (f := 9) (args := #[.string (ts a)]) (fun w₁ => by go_simp) (fun w₁ => by simp [go_sem, callFunc, Try.func9, Try.f9]) ?_
    clear hY hZ S Y Z
    obtain ⟨sA, hA⟩ := H0.ansA a ha
    obtain ⟨xB, hBx⟩ := H0.ansB a ha
    have hcall := H0.call a ha
    rw [hA, hBx] at hcall
    have hnone : (fun b => (own b ∨ b = N) ∨ (Ren.none Try.prog.globals.size).img b) = fun b => own b ∨ b = N := by
      funext b
      simp [Ren.img, Ren.none]
    rw [← hnone]
    refine WK.of_way (lift_call pF_funcs pF_bodies (f := 9) rfl (by simp [flatV]) (by simp [plainV, flatV]) hcall (by have := H0.glob; omega) _ _) (fun b hb => ⟨?_, ?_⟩) (fun own' g' w' hst hkeep hsz hnew => ?_)
    · rcases hb with hb | rfl
      · have := hoN b hb; omega
      · omega
    · rintro ⟨_, h⟩
      cases h
    obtain rfl : g' = _ := hst
    rw [Frame.finish_at]
    walk_nrm
    have hb3 : w'.heap[N]? = some (.cells #[.int .i64 a, .string (ts a)] 45) := (hkeep N (.inr rfl)).trans hb2
    have hsz' : w₄.heap.size ≤ w'.heap.size := hsz
    have hltA : (a : Int) < (c.n : Int) := by omega
    have h0A : (0 : Int) ≤ (a : Int) := by omega
    clear hcall hnone hkeep
    obtain ⟨Y, hY⟩ : ∃ Y, Y = (fun bq aq kq cq => WK Try.prog false c.K c.Rd (AtStore Try.prog c (AnchH c Bj Bd Bo) a) (fun b => (own b ∨ b = N) ∨ own' b) (G (Frame.at bq aq kq) cq) w') := ⟨_, rfl⟩
    obtain ⟨Z, hZ⟩ : ∃ Z, Z = (fun bq aq kq cq => WK Try.prog false c.K c.Rd (AtStore Try.prog c (AnchH c Bj Bd Bo) a) (fun b => (own b ∨ b = N) ∨ own' b) (G { Frame.at bq aq kq with mode := .returning } cq) w') := ⟨_, rfl⟩
    have S : Sil Try.prog false (fun wq => Rly (fun b => (own b ∨ b = N) ∨ own' b) w' wq ∧ c.K wq) Y Z := by rw [hY, hZ]; exact sil_wk _ w'
    suffices h : Y _ _ _ _ by rw [hY] at h; exact h
    repeat (first
      | refine sl_done S ?_
      | refine sl_seq S ?_
      | refine sl_skip S ?_
      | (co_apply sl_region S (by simp only [List.size_toArray, List.length_cons, List.length_nil, Nat.reduceAdd, Nat.zero_add, List.range, List.range.loop]; exact rfl))
      | refine sl_true S rfl ?_
      | refine sl_false S rfl ?_
      | refine sl_ret S ?_
      | refine sl_block S ?_
      | refine sl_loop S ?_
      | refine sl_inBlock S ?_
      | refine sl_inLoop S ?_
      | (refine sl_exit S (k' := _) rfl ?_)
      | refine sl_end S ?_
      | (co_apply sl_off S rfl rfl; (focus (walk_nrm; exact rfl)))
      | (co_apply sl_defer S rfl rfl (by k_ne) rfl; (focus (walk_nrm; exact rfl)))
      | (co_apply sl_call S rfl rfl (by k_ne) rfl H.f_uAdd (nm_uAdd L) rfl; (focus (walk_nrmf uAddFn; exact rfl)))
      | (co_apply sl_call S rfl rfl (by k_ne) rfl H.f_uLoad (nm_uLoad L) rfl; (focus (walk_nrmf uLoadFn; exact rfl)))
      | (co_apply sl_call S rfl rfl (by k_ne) rfl H.f_uStore (nm_uStore L) rfl; (focus (walk_nrmf uStoreFn; exact rfl)))
      | (co_apply sl_call S rfl rfl (by k_ne) rfl H.f_uCas (nm_uCas L) rfl; (focus (walk_nrmf uCasFn; exact rfl)))
      | (co_apply sl_entry S (.bool false) rfl rfl (by k_ne) rfl H.f_inBubble (x_inBubble_n L) (x_inBubble_b L) (x_inBubble_x L) (x_inBubble_f L); (focus (walk_nrm; exact rfl)))
      | (co_apply sl_leave1 S rfl rfl H.f_uAdd rfl; (focus (walk_nrm; exact rfl)))
      | (co_apply sl_leave1 S rfl rfl H.f_uLoad rfl; (focus (walk_nrm; exact rfl)))
      | (co_apply sl_leave1 S rfl rfl H.f_uCas rfl; (focus (walk_nrm; exact rfl)))
      | (co_apply sl_leave0 S rfl rfl H.f_uStore rfl; (focus (walk_nrm; exact rfl)))
      | (co_apply sl_op S rfl rfl (by k_ne); (focus (intro W _ K hK; go_simp; (try w_num); exact hK)); (focus (intro W _; simp [go_sem, *])); (focus (walk_nrm; exact rfl))))
    rw [hY]
    refine wk_op rfl rfl (by k_ne) (v := .slice (some ⟨c.Ob, 0, none⟩) c.n c.n) (fun w₁ r hK Q hQ => ?_) (fun w₁ r hK e he => ?_) (by walk_nrm; exact rfl) ?_
    · have hc := (hK.cell H0.ro).trans H0.co
      go_simp
      exact hQ
    · have hc := (hK.cell H0.ro).trans H0.co
      simp [go_sem, hc] at he
      subst he
      exact .inr ⟨_, rfl, H0.ro⟩
    suffices h : Y _ _ _ _ by rw [hY] at h; exact h
    repeat (first
      | refine sl_done S ?_
      | refine sl_seq S ?_
      | refine sl_skip S ?_
      | (co_apply sl_region S (by simp only [List.size_toArray, List.length_cons, List.length_nil, Nat.reduceAdd, Nat.zero_add, List.range, List.range.loop]; exact rfl))
      | refine sl_true S rfl ?_
      | refine sl_false S rfl ?_
      | refine sl_ret S ?_
      | refine sl_block S ?_
      | refine sl_loop S ?_
      | refine sl_inBlock S ?_
      | refine sl_inLoop S ?_
      | (refine sl_exit S (k' := _) rfl ?_)
      | refine sl_end S ?_
      | (co_apply sl_off S rfl rfl; (focus (walk_nrm; exact rfl)))
      | (co_apply sl_defer S rfl rfl (by k_ne) rfl; (focus (walk_nrm; exact rfl)))
      | (co_apply sl_call S rfl rfl (by k_ne) rfl H.f_uAdd (nm_uAdd L) rfl; (focus (walk_nrmf uAddFn; exact rfl)))
      | (co_apply sl_call S rfl rfl (by k_ne) rfl H.f_uLoad (nm_uLoad L) rfl; (focus (walk_nrmf uLoadFn; exact rfl)))
      | (co_apply sl_call S rfl rfl (by k_ne) rfl H.f_uStore (nm_uStore L) rfl; (focus (walk_nrmf uStoreFn; exact rfl)))
      | (co_apply sl_call S rfl rfl (by k_ne) rfl H.f_uCas (nm_uCas L) rfl; (focus (walk_nrmf uCasFn; exact rfl)))
      | (co_apply sl_entry S (.bool false) rfl rfl (by k_ne) rfl H.f_inBubble (x_inBubble_n L) (x_inBubble_b L) (x_inBubble_x L) (x_inBubble_f L); (focus (walk_nrm; exact rfl)))
      | (co_apply sl_leave1 S rfl rfl H.f_uAdd rfl; (focus (walk_nrm; exact rfl)))
      | (co_apply sl_leave1 S rfl rfl H.f_uLoad rfl; (focus (walk_nrm; exact rfl)))
      | (co_apply sl_leave1 S rfl rfl H.f_uCas rfl; (focus (walk_nrm; exact rfl)))
      | (co_apply sl_leave0 S rfl rfl H.f_uStore rfl; (focus (walk_nrm; exact rfl)))
      | (co_apply sl_op S rfl rfl (by k_ne); (focus (intro W _ K hK; go_simp; (try w_num); exact hK)); (focus (intro W _; simp [go_sem, *])); (focus (walk_nrm; exact rfl))))
    rw [hY]
    refine wk_op rfl rfl (by k_ne) (v := .int .i64 a) (fun w₁ r hK Q hQ => ?_) (fun w₁ r hK e he => ?_) (by walk_nrm; exact rfl) ?_
    · have hc : w₁.cell? ⟨N, 0, none⟩ = some (.int .i64 a) := (Go.ConcN.cell_of_block (r.kept N (.inl (.inr rfl))) 0).trans (by simp [World.cell?, hb3])
      go_simp
      exact hQ
    · have hc : w₁.cell? ⟨N, 0, none⟩ = some (.int .i64 a) := (Go.ConcN.cell_of_block (r.kept N (.inl (.inr rfl))) 0).trans (by simp [World.cell?, hb3])
      simp [go_sem, hc] at he
      subst he
      exact .inl (.inl ⟨_, _, rfl, .inl (.inr rfl)⟩)
    suffices h : Y _ _ _ _ by rw [hY] at h; exact h
    repeat (first
      | refine sl_done S ?_
      | refine sl_seq S ?_
      | refine sl_skip S ?_
      | (co_apply sl_region S (by simp only [List.size_toArray, List.length_cons, List.length_nil, Nat.reduceAdd, Nat.zero_add, List.range, List.range.loop]; exact rfl))
      | refine sl_true S rfl ?_
      | refine sl_false S rfl ?_
      | refine sl_ret S ?_
      | refine sl_block S ?_
      | refine sl_loop S ?_
      | refine sl_inBlock S ?_
      | refine sl_inLoop S ?_
      | (refine sl_exit S (k' := _) rfl ?_)
      | refine sl_end S ?_
      | (co_apply sl_off S rfl rfl; (focus (walk_nrm; exact rfl)))
      | (co_apply sl_defer S rfl rfl (by k_ne) rfl; (focus (walk_nrm; exact rfl)))
      | (co_apply sl_call S rfl rfl (by k_ne) rfl H.f_uAdd (nm_uAdd L) rfl; (focus (walk_nrmf uAddFn; exact rfl)))
      | (co_apply sl_call S rfl rfl (by k_ne) rfl H.f_uLoad (nm_uLoad L) rfl; (focus (walk_nrmf uLoadFn; exact rfl)))
      | (co_apply sl_call S rfl rfl (by k_ne) rfl H.f_uStore (nm_uStore L) rfl; (focus (walk_nrmf uStoreFn; exact rfl)))
      | (co_apply sl_call S rfl rfl (by k_ne) rfl H.f_uCas (nm_uCas L) rfl; (focus (walk_nrmf uCasFn; exact rfl)))
      | (co_apply sl_entry S (.bool false) rfl rfl (by k_ne) rfl H.f_inBubble (x_inBubble_n L) (x_inBubble_b L) (x_inBubble_x L) (x_inBubble_f L); (focus (walk_nrm; exact rfl)))
      | (co_apply sl_leave1 S rfl rfl H.f_uAdd rfl; (focus (walk_nrm; exact rfl)))
      | (co_apply sl_leave1 S rfl rfl H.f_uLoad rfl; (focus (walk_nrm; exact rfl)))
      | (co_apply sl_leave1 S rfl rfl H.f_uCas rfl; (focus (walk_nrm; exact rfl)))
      | (co_apply sl_leave0 S rfl rfl H.f_uStore rfl; (focus (walk_nrm; exact rfl)))
      | (co_apply sl_op S rfl rfl (by k_ne); (focus (intro W _ K hK; go_simp; (try w_num); exact hK)); (focus (intro W _; simp [go_sem, *])); (focus (walk_nrm; exact rfl))))
    rw [hY]
    clear hY hZ S Y Z
    refine WK.stop fun w₁ r hK => ⟨rfl, fun cs ho1 ho2 => ⟨_, _, (stepG_two (w := w₁) rfl rfl (by k_ne) rfl rfl rfl ho1 (by omega) rfl rfl Try.sizeOf34 (fun w es => by simp [go_sem]) (by kernel_rfl)).trans (by unfold put2; rw [hA, hBx, Nat.mul_comm 2 a]), fun e he => ?_, ?_⟩⟩
    · simp at he
      rcases he with rfl | rfl
      · exact ⟨_, rfl, by omega⟩
      · exact ⟨_, rfl, by omega⟩
    have hsz3 : w'.heap.size ≤ w₁.heap.size := r.size
    have hown3 : ∀ b, ((own b ∨ b = N) ∨ own' b) → b < w₁.heap.size := by
      rintro b ((h | rfl) | h)
      · have := hoN b h; omega
      · omega
      · rcases hnew b h with ⟨_, h⟩ | h
        · cases h
        · omega
    walk_nrm
    obtain ⟨Y, hY⟩ : ∃ Y, Y = (fun bq aq kq cq => WK Try.prog false c.K c.Rd (AnchH c Bj Bd Bo) (fun b => (own b ∨ b = N) ∨ own' b) (G (Frame.at bq aq kq) cq) w₁) := ⟨_, rfl⟩
    obtain ⟨Z, hZ⟩ : ∃ Z, Z = (fun bq aq kq cq => WK Try.prog false c.K c.Rd (AnchH c Bj Bd Bo) (fun b => (own b ∨ b = N) ∨ own' b) (G { Frame.at bq aq kq with mode := .returning } cq) w₁) := ⟨_, rfl⟩
    have S : Sil Try.prog false (fun wq => Rly (fun b => (own b ∨ b = N) ∨ own' b) w₁ wq ∧ c.K wq) Y Z := by rw [hY, hZ]; exact sil_wk _ w₁
    suffices h : Y _ _ _ _ by rw [hY] at h; exact h
    repeat (first
      | refine sl_done S ?_
      | refine sl_seq S ?_
      | refine sl_skip S ?_
      | (co_apply sl_region S (by simp only [List.size_toArray, List.length_cons, List.length_nil, Nat.reduceAdd, Nat.zero_add, List.range, List.range.loop]; exact rfl))
      | refine sl_true S rfl ?_
      | refine sl_false S rfl ?_
      | refine sl_ret S ?_
      | refine sl_block S ?_
      | refine sl_loop S ?_
      | refine sl_inBlock S ?_
      | refine sl_inLoop S ?_
      | (refine sl_exit S (k' := _) rfl ?_)
      | refine sl_end S ?_
      | (co_apply sl_off S rfl rfl; (focus (walk_nrm; exact rfl)))
      | (co_apply sl_defer S rfl rfl (by k_ne) rfl; (focus (walk_nrm; exact rfl)))
      | (co_apply sl_call S rfl rfl (by k_ne) rfl H.f_uAdd (nm_uAdd L) rfl; (focus (walk_nrmf uAddFn; exact rfl)))
      | (co_apply sl_call S rfl rfl (by k_ne) rfl H.f_uLoad (nm_uLoad L) rfl; (focus (walk_nrmf uLoadFn; exact rfl)))
      | (co_apply sl_call S rfl rfl (by k_ne) rfl H.f_uStore (nm_uStore L) rfl; (focus (walk_nrmf uStoreFn; exact rfl)))
      | (co_apply sl_call S rfl rfl (by k_ne) rfl H.f_uCas (nm_uCas L) rfl; (focus (walk_nrmf uCasFn; exact rfl)))
      | (co_apply sl_entry S (.bool false) rfl rfl (by k_ne) rfl H.f_inBubble (x_inBubble_n L) (x_inBubble_b L) (x_inBubble_x L) (x_inBubble_f L); (focus (walk_nrm; exact rfl)))
      | (co_apply sl_leave1 S rfl rfl H.f_uAdd rfl; (focus (walk_nrm; exact rfl)))
      | (co_apply sl_leave1 S rfl rfl H.f_uLoad rfl; (focus (walk_nrm; exact rfl)))
      | (co_apply sl_leave1 S rfl rfl H.f_uCas rfl; (focus (walk_nrm; exact rfl)))
      | (co_apply sl_leave0 S rfl rfl H.f_uStore rfl; (focus (walk_nrm; exact rfl)))
      | (co_apply sl_op S rfl rfl (by k_ne); (focus (intro W _ K hK; go_simp; (try w_num); exact hK)); (focus (intro W _; simp [go_sem, *])); (focus (walk_nrm; exact rfl))))
    rw [hY]
    exact WK.stop fun w₂ r2 hK2 => ⟨_, rfl, rfl, rfl, rfl, rfl, rfl, rfl, by have := r2.size; omega, fun b h => Nat.lt_of_lt_of_le (hown3 b h) r2.size⟩
  · rw [finishComm_recv]
    show WK _ _ _ _ _ own (G (Frame.finish (Frame.at hb _ _) _) [hbot]) w
    rw [Frame.finish_at]
    simp only [recvd, if_true]
    walk_nrm
    obtain ⟨Y, hY⟩ : ∃ Y, Y = (fun bq aq kq cq => WK Try.prog false c.K c.Rd (AtOver Try.prog c) own (G (Frame.at bq aq kq) cq) w) := ⟨_, rfl⟩
    obtain ⟨Z, hZ⟩ : ∃ Z, Z = (fun bq aq kq cq => WK Try.prog false c.K c.Rd (AtOver Try.prog c) own (G { Frame.at bq aq kq with mode := .returning } cq) w) := ⟨_, rfl⟩
    have S : Sil Try.prog false (fun wq => Rly own w wq ∧ c.K wq) Y Z := by rw [hY, hZ]; exact sil_wk _ w
    suffices h : Y _ _ _ _ by rw [hY] at h; exact h
    repeat (first
      | refine sl_done S ?_
      | refine sl_seq S ?_
      | refine sl_skip S ?_
      | (co_apply sl_region S (by simp only [List.size_toArray, List.length_cons, List.length_nil, Nat.reduceAdd, Nat.zero_add, List.range, List.range.loop]; exact rfl))
      | refine sl_true S rfl ?_
      | refine sl_false S rfl ?_
      | refine sl_ret S ?_
      | refine sl_block S ?_
      | refine sl_loop S ?_
      | refine sl_inBlock S ?_
      | refine sl_inLoop S ?_
      | (refine sl_exit S (k' := _) rfl ?_)
      | refine sl_end S ?_
      | (co_apply sl_off S rfl rfl; (focus (walk_nrm; exact rfl)))
      | (co_apply sl_defer S rfl rfl (by k_ne) rfl; (focus (walk_nrm; exact rfl)))
      | (co_apply sl_call S rfl rfl (by k_ne) rfl H.f_uAdd (nm_uAdd L) rfl; (focus (walk_nrmf uAddFn; exact rfl)))
      | (co_apply sl_call S rfl rfl (by k_ne) rfl H.f_uLoad (nm_uLoad L) rfl; (focus (walk_nrmf uLoadFn; exact rfl)))
      | (co_apply sl_call S rfl rfl (by k_ne) rfl H.f_uStore (nm_uStore L) rfl; (focus (walk_nrmf uStoreFn; exact rfl)))
      | (co_apply sl_call S rfl rfl (by k_ne) rfl H.f_uCas (nm_uCas L) rfl; (focus (walk_nrmf uCasFn; exact rfl)))
      | (co_apply sl_entry S (.bool false) rfl rfl (by k_ne) rfl H.f_inBubble (x_inBubble_n L) (x_inBubble_b L) (x_inBubble_x L) (x_inBubble_f L); (focus (walk_nrm; exact rfl)))
      | (co_apply sl_leave1 S rfl rfl H.f_uAdd rfl; (focus (walk_nrm; exact rfl)))
      | (co_apply sl_leave1 S rfl rfl H.f_uLoad rfl; (focus (walk_nrm; exact rfl)))
      | (co_apply sl_leave1 S rfl rfl H.f_uCas rfl; (focus (walk_nrm; exact rfl)))
      | (co_apply sl_leave0 S rfl rfl H.f_uStore rfl; (focus (walk_nrm; exact rfl)))
      | (co_apply sl_op S rfl rfl (by k_ne); (focus (intro W _ K hK; go_simp; (try w_num); exact hK)); (focus (intro W _; simp [go_sem, *])); (focus (walk_nrm; exact rfl))))
    co_apply sl_unwind S rfl H.f_done (nm_done L) rfl
    · walk_nrmf doneFn
      exact rfl
    rw [hY]
    refine WK.stop fun w₁ r hK => ⟨rfl, fun hl => ?_⟩
    rw [H0.ty] at hl ⊢
    have hd := @done_way link Try.prog wgLib c.Wg 0
    simp only [body_done, doneFn, Option.getD_some] at hd
    exact hd (hquits _) w₁ ⟨hl, Nat.zero_le _⟩
end
end Go.Proofs.Ytebgcemglicjiaa
