/- The whole way behind the join: crew.all's end, crew.Open's, the law's. Printed by gen_cvi.py. No condition of ours. -/
import Derived.Test.YtebgcemglicjiaaCvE
import Derived.Conc.AppendWalk
import Derived.Conc.CompanyDraw
import Derived.Test.YtebgcemglicjiaaShelf
/- crew.Open behind the join, walked as the starter's way. Printed by gen_cvf.py. No condition of ours. -/
namespace Go.Proofs.Ytebgcemglicjiaa
open Go.Conc Go.ConcN Go.RowKit Go.Conc.Lib
noncomputable def bodyO : Code := Try.f4.body.getD .skip
noncomputable def LO : Code := match bodyO with | .seq _ (.seq _ (.seq _ (.seq (.seq _ (.block _ (.loop c))) _))) => c | _ => .skip
noncomputable def finO : Code := match bodyO with | .seq _ (.seq _ (.seq _ (.seq _ c))) => c | _ => .skip
noncomputable def opsO : Array Oper := match bodyO with | .seq _ (.seq _ (.seq _ (.seq (.seq (.region _ ops _) _) _))) => ops | _ => #[]
noncomputable def dopsO : Array Oper := match LO with | .seq _ (.seq _ (.seq (.block _ (.seq _ (.seq (.seq _ (.cond _ (.seq (.region _ ops _) _) _)) _))) _)) => ops | _ => #[]
theorem follows_mixed : Try.prog.follows .mixedOrders = true := by kernel_rfl
theorem lin_step {ops : Array Oper} {l : Array Bool} {rs acc : List Nat} {n t : Nat} (h : ((List.range ops.size).filter fun i => !l.getD i true && ((ops[i]?).map (·.after.all fun e => !Region.binds .any e || l.getD e.on false)).getD false) = rs) :
    Region.linearise.go .any ops (n + 1) t l acc = match rs[t % rs.length]? with | some i => Region.linearise.go .any ops n (t / rs.length) (l.setIfInBounds i true) (i :: acc) | none => acc.reverse := by
  rw [Region.linearise.go, h]
  rfl
theorem d_orders (t : Nat) : Region.linearise .any dopsO t = [0, 1, 2, 3] ∨ Region.linearise .any dopsO t = [0, 2, 1, 3] ∨ Region.linearise .any dopsO t = [2, 0, 1, 3] := by
  unfold Region.linearise
  have hs : dopsO.size = 4 := by kernel_rfl
  rw [hs]
  have m1 : ∀ t, t % 1 = 0 := fun t => by omega
  have one : ∀ (x t : Nat), [x][t % [x].length]? = some x := fun x t => by simp [m1]
  have two : ∀ (x y t : Nat), [x, y][t % [x, y].length]? = some x ∨ [x, y][t % [x, y].length]? = some y := fun x y t => by
    rcases Nat.mod_two_eq_zero_or_one t with h | h <;> simp [h]
  rw [lin_step (rs := [0, 2]) (by kernel_rfl)]
  rcases two 0 2 t with h | h <;> rw [h]
  · dsimp only
    rw [lin_step (rs := [1, 2]) (by kernel_rfl)]
    rcases two 1 2 (t / 2) with h1 | h1
    · left
      have h1' : [1, 2][t / [0, 2].length % [1, 2].length]? = some 1 := h1
      rw [h1']
      dsimp only
      rw [lin_step (rs := [2]) (by kernel_rfl), one]
      dsimp only
      rw [lin_step (rs := [3]) (by kernel_rfl), one]
      rfl
    · right; left
      have h1' : [1, 2][t / [0, 2].length % [1, 2].length]? = some 2 := h1
      rw [h1']
      dsimp only
      rw [lin_step (rs := [1]) (by kernel_rfl), one]
      dsimp only
      rw [lin_step (rs := [3]) (by kernel_rfl), one]
      rfl
  · right; right
    dsimp only
    rw [lin_step (rs := [0]) (by kernel_rfl), one]
    dsimp only
    rw [lin_step (rs := [1]) (by kernel_rfl), one]
    dsimp only
    rw [lin_step (rs := [3]) (by kernel_rfl), one]
    rfl
theorem array36 (T : Array Value) (h : T.size = 36) : ∃ v0 v1 v2 v3 v4 v5 v6 v7 v8 v9 v10 v11 v12 v13 v14 v15 v16 v17 v18 v19 v20 v21 v22 v23 v24 v25 v26 v27 v28 v29 v30 v31 v32 v33 v34 v35, T = #[v0, v1, v2, v3, v4, v5, v6, v7, v8, v9, v10, v11, v12, v13, v14, v15, v16, v17, v18, v19, v20, v21, v22, v23, v24, v25, v26, v27, v28, v29, v30, v31, v32, v33, v34, v35] := by
  obtain ⟨l⟩ := T
  simp only [List.size_toArray] at h
  rcases l with _ | ⟨v0, l⟩
  · simp at h
  rcases l with _ | ⟨v1, l⟩
  · simp at h
  rcases l with _ | ⟨v2, l⟩
  · simp at h
  rcases l with _ | ⟨v3, l⟩
  · simp at h
  rcases l with _ | ⟨v4, l⟩
  · simp at h
  rcases l with _ | ⟨v5, l⟩
  · simp at h
  rcases l with _ | ⟨v6, l⟩
  · simp at h
  rcases l with _ | ⟨v7, l⟩
  · simp at h
  rcases l with _ | ⟨v8, l⟩
  · simp at h
  rcases l with _ | ⟨v9, l⟩
  · simp at h
  rcases l with _ | ⟨v10, l⟩
  · simp at h
  rcases l with _ | ⟨v11, l⟩
  · simp at h
  rcases l with _ | ⟨v12, l⟩
  · simp at h
  rcases l with _ | ⟨v13, l⟩
  · simp at h
  rcases l with _ | ⟨v14, l⟩
  · simp at h
  rcases l with _ | ⟨v15, l⟩
  · simp at h
  rcases l with _ | ⟨v16, l⟩
  · simp at h
  rcases l with _ | ⟨v17, l⟩
  · simp at h
  rcases l with _ | ⟨v18, l⟩
  · simp at h
  rcases l with _ | ⟨v19, l⟩
  · simp at h
  rcases l with _ | ⟨v20, l⟩
  · simp at h
  rcases l with _ | ⟨v21, l⟩
  · simp at h
  rcases l with _ | ⟨v22, l⟩
  · simp at h
  rcases l with _ | ⟨v23, l⟩
  · simp at h
  rcases l with _ | ⟨v24, l⟩
  · simp at h
  rcases l with _ | ⟨v25, l⟩
  · simp at h
  rcases l with _ | ⟨v26, l⟩
  · simp at h
  rcases l with _ | ⟨v27, l⟩
  · simp at h
  rcases l with _ | ⟨v28, l⟩
  · simp at h
  rcases l with _ | ⟨v29, l⟩
  · simp at h
  rcases l with _ | ⟨v30, l⟩
  · simp at h
  rcases l with _ | ⟨v31, l⟩
  · simp at h
  rcases l with _ | ⟨v32, l⟩
  · simp at h
  rcases l with _ | ⟨v33, l⟩
  · simp at h
  rcases l with _ | ⟨v34, l⟩
  · simp at h
  rcases l with _ | ⟨v35, l⟩
  · simp at h
  rcases l with _ | ⟨x, l⟩
  · exact ⟨v0, v1, v2, v3, v4, v5, v6, v7, v8, v9, v10, v11, v12, v13, v14, v15, v16, v17, v18, v19, v20, v21, v22, v23, v24, v25, v26, v27, v28, v29, v30, v31, v32, v33, v34, v35, rfl⟩
  · simp at h
/-- What the hands have left, and what it is to be. -/
structure TCtx (c : Cfg) (wt : World) (tx : Nat → ByteArray) (er : Nat → Int) : Prop where
  ok : c.Ok
  full : c.Full wt
  oty : c.oty = 34
  ansA : ∀ a, a < c.n → c.ansA a = .string (tx a)
  ansB : ∀ a, a < c.n → c.ansB a = .int .i64 (er a)
  glob : Try.prog.globals.size ≤ c.B
  n16 : c.n ≤ 16
theorem TS.alloc {c : Cfg} {wt : World} {own : Nat → Prop} {w : World} (h : TS c wt own w) (ob : Obj) : TS c wt (fun b => own b ∨ b = w.heap.size) (w.alloc ob) :=
  ⟨fun b h1 h2 => .inl (h.hB b h1 h2), fun b hb => by
    rw [(alloc_at w ob).2]
    rcases hb with hb | rfl
    · have := h.hS b hb; omega
    · omega, fun b h1 h2 => (heap_alloc_old w ob (by have := h.hN; omega)).trans (h.hK b h1 h2), by rw [(alloc_at w ob).2]; have := h.hN; omega⟩
theorem TS.set {c : Cfg} {wt : World} {own : Nat → Prop} {w : World} (h : TS c wt own w) {N : Nat} (hN : c.B ≤ N) (o : Obj) : TS c wt own { w with heap := w.heap.setIfInBounds N o } :=
  ⟨h.hB, fun b hb => by show b < (w.heap.setIfInBounds N o).size; rw [Array.size_setIfInBounds]; exact h.hS b hb, fun b h1 h2 => by
    show (w.heap.setIfInBounds N o)[b]? = _
    rw [Array.getElem?_setIfInBounds_ne (by omega)]; exact h.hK b h1 h2, by show c.B ≤ (w.heap.setIfInBounds N o).size; rw [Array.size_setIfInBounds]; exact h.hN⟩
theorem SRow.alloc {B : Nat} {e : TypeId} {own : Nat → Prop} {w : World} {v : Value} {xs : List ByteArray} (h : SRow B e w v xs) (hi : RowIn own v) (hS : ∀ b, own b → b < w.heap.size) (ob : Obj) : SRow B e (w.alloc ob) v xs :=
  h.kept fun g o n m e => heap_alloc_old w ob (hS g (hi g o n m e))
theorem SRow.set {B : Nat} {e : TypeId} {own : Nat → Prop} {w : World} {v : Value} {xs : List ByteArray} (h : SRow B e w v xs) (hi : RowIn own v) {N : Nat} (hN : ¬ own N) (ob : Obj) : SRow B e { w with heap := w.heap.setIfInBounds N ob } v xs :=
  h.kept fun g o n m e => by
    show (w.heap.setIfInBounds N ob)[g]? = _
    rw [Array.getElem?_setIfInBounds_ne (fun x => hN (by have := hi g o n m e; rw [x]; exact this))]
theorem RowIn.mono {own own' : Nat → Prop} {v : Value} (h : RowIn own v) (hm : ∀ b, own b → own' b) : RowIn own' v := fun g o n m e => hm g (h g o n m e)
theorem actK_sub {Rd own own' : Nat → Prop} {w w₁ : World} {es es' : Array Event} (A : ActK Rd own own' w w₁ es) (h : ∀ e ∈ es', e ∈ es) : ActK Rd own own' w w₁ es' := { A with evs := fun e he => A.evs e (h e he) }
theorem run_append_op {P : Program} {o : Oper} {a : Act} {w w' : World} {v xv v' : Value} (s x : Operand) (t : TypeId) (ho : o.op = .call { callee := .builtin .append, args := #[s, x], argTypes := #[t, t] }) (hs : a.eval s = v) (hx : a.eval x = xv)
    (hr : (Builtin.append_ #[t, t] o.type #[v, xv]).run P w = .ok v' w') : (execOp a.eval o).run P w = .ok (.value v') w' := by
  unfold execOp
  simp only [ho, resolve, invoke, builtin, Sem.run_bind, Sem.run_pure, Result.andThen_ok, List.map_toArray, List.map_cons, List.map_nil, hs, hx, hr]
/-- An append to a row of one's own, as a step of the starter's. -/
theorem wk_append {c : Cfg} {wt : World} {Rd : Nat → Prop} {K : World → Prop} {Stop : (Nat → Prop) → Goroutine → World → Prop} {own : Nat → Prop} {w : World} {b : Frame} {a : Act} {k : List Item} {cs : List Frame} {ops : Array Oper} {i : Nat} {rest : List Nat} {o : Oper} {s x : Operand} {v : Value} {xs : List ByteArray} {t : ByteArray} {h : Nat}
    (ho : ops[i]? = some o) (hw : Region.wanted o (yielded ops a.tmps) = true) (hk : b.kind ≠ .early) (hop : o.op = .call { callee := .builtin .append, args := #[s, x], argTypes := #[22, 22] }) (hs : a.eval s = v) (hx : a.eval x = .slice (some ⟨h, 0, none⟩) 1 1)
    (hT : TS c wt own w) (hv : SRow c.B 9 w v xs) (hi : RowIn own v) (hr : w.heap[h]? = some (.cells #[.string t] 9 (0, 0))) (hh : own h) (hB : c.B ≤ h) (hG : Try.prog.globals.size ≤ c.B) (hl : xs.length ≤ 1000) (hne : ∀ g o n m, v = .slice (some ⟨g, o, none⟩) n m → g ≠ h)
    (H : ∀ own' w' v', TS c wt own' w' → SRow c.B 9 w' v' (xs ++ [t]) → RowIn own' v' → (∀ b, own b → own' b) → (∀ g, own g → (∀ o n m, v ≠ .slice (some ⟨g, o, none⟩) n m) → w'.heap[g]? = w.heap[g]? ∨ g = h) → (∀ g o n m, v' = .slice (some ⟨g, o, none⟩) n m → (∃ o n m, v = .slice (some ⟨g, o, none⟩) n m) ∨ ¬ own g) → WK Try.prog true K Rd Stop own' (G (b.at (a.put o.dst v') (.inRegion ops rest :: k)) cs) w') : WK Try.prog true K Rd Stop own (G (b.at a (.inRegion ops (i :: rest) :: k)) cs) w := by
  refine wk_mem ho hw hk fun w₁ r hK => ?_
  obtain ⟨v', w', S, o2, hrun, A, hS, hrow, hin, hblk, hnew⟩ := append_row (P := Try.prog) (t := 22) (ty := o.type) (e := 9) Try.underlying22 (by kernel_rfl) (by kernel_rfl) (hv.rely hi r) ((r.kept h hh).trans hr) hB hG hl (Nat.le_trans hT.hN r.size) hne
  have sub : ∀ b ∈ S, own b := fun b hb => by
    rcases hS b hb with rfl | ⟨q, n, m, e⟩
    · exact hh
    · exact hi _ _ _ _ e
  have A' : ActK Rd own (fun b => own b ∨ o2 b) w₁ w' (listed Try.prog b.fn a o w₁) := actK_sub (actK_of_act1 A sub) fun e he => by
    have := mem_listed he
    rw [Go.Conc.events_append_op s x 22 hop hs hx] at this
    exact this
  refine ⟨v', w', _, .inl (run_append_op s x 22 hop hs hx hrun), A', H _ _ _ ((hT.rely r).step A' fun b h1 _ => hblk b h1) hrow (hin.mono fun b hb => .inr hb) (fun b hb => .inl hb) (fun g hg hn => ?_) fun g o n m e => (hnew g o n m e).imp id fun h1 h2 => absurd ((hT.rely r).hS g h2) (by omega)⟩
  by_cases e : g = h
  · exact .inr e
  · refine .inl ?_
    rw [← r.kept g hg]
    exact A.others g (Nat.lt_of_lt_of_le (hT.hS g hg) r.size) fun h2 => by
      rcases A.new g h2 with h3 | h3
      · rcases hS g h3 with h4 | ⟨q, n, m, h4⟩
        · exact e h4
        · exact hn q n m h4
      · have := hT.hS g hg
        have := r.size
        omega
def txs (tx : Nat → ByteArray) (n : Nat) : List ByteArray := (List.range n).map tx
theorem txs_succ (tx : Nat → ByteArray) (n : Nat) : txs tx (n + 1) = txs tx n ++ [tx n] := by simp [txs, List.range_succ]
theorem txs_len (tx : Nat → ByteArray) (n : Nat) : (txs tx n).length = n := by simp [txs]
/-- crew.Open's answer. -/
def OAns (c : Cfg) (tx : Nat → ByteArray) (er : Nat → Int) (own : Nat → Prop) (w : World) (r : Value) : Prop :=
  (∃ m, m < c.n ∧ (∀ a, a < m → er a = 0) ∧ er m ≠ 0 ∧ r = .tuple #[.slice none 0 0, .int .i64 (er m)]) ∨
    ((∀ a, a < c.n → er a = 0) ∧ ∃ v, r = .tuple #[v, .int .i64 0] ∧ SRow c.B 9 w v (txs tx c.n) ∧ RowIn own v)
structure SlotsO (c : Cfg) (i : Nat) (v : Value) (T : Array Value) : Prop where
  size : T.size = 36
  out : T[7]? = some v
  row : T[18]? = some (.slice (some ⟨c.Ob, 0, none⟩) c.n c.n)
  top : T[19]? = some (.int .i64 c.n)
  at_ : T[20]? = some (.int .i64 i)
section
variable {c : Cfg} {wt : World} {tx : Nat → ByteArray} {er : Nat → Int} {Post : Value → World → Prop}
theorem ob_row (X : TCtx c wt tx er) {own : Nat → Prop} {w : World} (h : TS c wt own w) : ∃ cs, w.heap[c.Ob]? = some (.cells cs 34 (0, 0)) ∧ ∀ a, a < c.n → cs[a * 2]? = some (.string (tx a)) ∧ cs[a * 2 + 1]? = some (.int .i64 (er a)) := by
  obtain ⟨_, cs, h1, h2, h3⟩ := X.full
  refine ⟨cs, ?_, fun a ha => ?_⟩
  · rw [h.hK _ X.ok.ob (Ne.symm X.ok.wo), h1, X.oty]
  · have := h3 a ha
    rw [X.ansA a ha, X.ansB a ha, Nat.mul_comm] at this
    exact this
set_option maxRecDepth 100000 in
set_option maxHeartbeats 8000000 in
theorem open_loop (X : TCtx c wt tx er) {bL : Frame} {aL : Act} {opsL : Array Oper} {iL : Nat} {restL : List Nat} {kL : List Item}
    (hk : ∀ own w r, TS c wt own w → OAns c tx er own w r → WK Try.prog true c.Ko (fun _ => False) (AtEnd Try.prog Post) own (G (bL.at (aL.put ((opsL[iL]?).bind (·.dst)) r) (.inRegion opsL restL :: kL)) []) w) :
    ∀ k i, i + k = c.n → (∀ a, a < i → er a = 0) → ∀ own w T v, TS c wt own w → SRow c.B 9 w v (txs tx i) → RowIn own v → SlotsO c i v T →
      WK Try.prog true c.Ko (fun _ => False) (AtEnd Try.prog Post) own (G ((base 4).at ⟨T, []⟩ [.code LO, .inLoop LO, .inBlock 0, .code finO]) [bL.at aL (.inRegion opsL (iL :: restL) :: kL)]) w := by
  intro k
  induction k with
  | zero =>
    intro i hi he own w T v hT hv hin hs
    obtain ⟨s0, t7, t18, t19, t20⟩ := hs
    obtain ⟨v0, v1, v2, v3, v4, v5, v6, v7, v8, v9, v10, v11, v12, v13, v14, v15, v16, v17, v18, v19, v20, v21, v22, v23, v24, v25, v26, v27, v28, v29, v30, v31, v32, v33, v34, v35, rfl⟩ := array36 T s0
    simp only [List.getElem?_toArray, List.getElem?_cons_zero, List.getElem?_cons_succ, Option.some.injEq] at t7 t18 t19 t20
    subst t7 t18 t19 t20
    obtain rfl : i = c.n := by omega
    simp only [LO, finO, bodyO, Try.f4, Option.getD_some]
    obtain ⟨Y, hY⟩ : ∃ Y, Y = (fun bq aq kq cq => WK Try.prog true c.Ko (fun _ => False) (AtEnd Try.prog Post) own (G (Frame.at bq aq kq) cq) w) := ⟨_, rfl⟩
    obtain ⟨Z, hZ⟩ : ∃ Z, Z = (fun bq aq kq cq => WK Try.prog true c.Ko (fun _ => False) (AtEnd Try.prog Post) own (G { Frame.at bq aq kq with mode := .returning } cq) w) := ⟨_, rfl⟩
    have S : Sil Try.prog true (fun wq => Rly own w wq ∧ c.Ko wq) Y Z := by rw [hY, hZ]; exact sil_wk _ w
    suffices h : Y _ _ _ _ by rw [hY] at h; exact h
    repeat (first
      | refine sl_done S ?_
      | refine sl_seq S ?_
      | refine sl_skip S ?_
      | (co_apply sl_region S (by simp only [List.size_toArray, List.length_cons, List.length_nil, Nat.reduceAdd, Nat.zero_add, List.range, List.range.loop]; exact rfl))
      | refine sl_true S rfl ?_
      | refine sl_false S rfl ?_
      | refine sl_ret S ?_
      | refine sl_block S ?_
      | refine sl_loop S ?_
      | refine sl_inBlock S ?_
      | (refine sl_exit S (k' := _) rfl ?_)
      | refine sl_end S ?_
      | (co_apply sl_off S rfl rfl; (focus (walk_nrm; exact rfl)))
      | (co_apply sl_op S rfl rfl (by k_ne); (focus (intro W _ K hK; go_simp; (try w_num); exact hK)); (focus (intro W _; simp [go_sem, *])); (focus (walk_nrm; exact rfl))))
    rw [hZ]
    clear hY hZ S Y Z
    refine WK.silent rfl (fun w₁ r _ => (stepG_leave (b := base 4) (c := bL.at aL (.inRegion opsL (iL :: restL) :: kL)) rfl rfl Try.func4 (results_tmp2 rfl _ _ _) (events_results_tmp2 rfl _ _)).trans (by rw [Frame.finish_at])) ?_
    exact hk own w _ hT (.inr ⟨he, _, rfl, hv, hin⟩)
  | succ k ih =>
    intro i hi he own w T v hT hv hin hs
    obtain ⟨s0, t7, t18, t19, t20⟩ := hs
    obtain ⟨v0, v1, v2, v3, v4, v5, v6, v7, v8, v9, v10, v11, v12, v13, v14, v15, v16, v17, v18, v19, v20, v21, v22, v23, v24, v25, v26, v27, v28, v29, v30, v31, v32, v33, v34, v35, rfl⟩ := array36 T s0
    simp only [List.getElem?_toArray, List.getElem?_cons_zero, List.getElem?_cons_succ, Option.some.injEq] at t7 t18 t19 t20
    subst t7 t18 t19 t20
    have hlt : (i : Int) < (c.n : Int) := by omega
    have h0 : (0 : Int) ≤ (i : Int) := by omega
    simp only [LO, finO, bodyO, Try.f4, Option.getD_some] at ih ⊢
    by_cases hz : er i = 0
    · obtain ⟨E0, hE⟩ : ∃ E0, er i = E0 := ⟨_, rfl⟩
      rw [hz] at hE
      subst hE
      have hE := hz
      obtain ⟨Y, hY⟩ : ∃ Y, Y = (fun bq aq kq cq => WK Try.prog true c.Ko (fun _ => False) (AtEnd Try.prog Post) own (G (Frame.at bq aq kq) cq) w) := ⟨_, rfl⟩
      obtain ⟨Z, hZ⟩ : ∃ Z, Z = (fun bq aq kq cq => WK Try.prog true c.Ko (fun _ => False) (AtEnd Try.prog Post) own (G { Frame.at bq aq kq with mode := .returning } cq) w) := ⟨_, rfl⟩
      have S : Sil Try.prog true (fun wq => Rly own w wq ∧ c.Ko wq) Y Z := by rw [hY, hZ]; exact sil_wk _ w
      suffices h : Y _ _ _ _ by rw [hY] at h; exact h
      repeat (first
        | refine sl_done S ?_
        | refine sl_seq S ?_
        | refine sl_skip S ?_
        | (co_apply sl_region S (by simp only [List.size_toArray, List.length_cons, List.length_nil, Nat.reduceAdd, Nat.zero_add, List.range, List.range.loop]; exact rfl))
        | refine sl_true S rfl ?_
        | refine sl_false S rfl ?_
        | refine sl_ret S ?_
        | refine sl_block S ?_
        | refine sl_loop S ?_
        | refine sl_inBlock S ?_
        | (refine sl_exit S (k' := _) rfl ?_)
        | refine sl_end S ?_
        | (co_apply sl_off S rfl rfl; (focus (walk_nrm; exact rfl)))
        | (co_apply sl_op S rfl rfl (by k_ne); (focus (intro W _ K hK; go_simp; (try w_num); exact hK)); (focus (intro W _; simp [go_sem, *])); (focus (walk_nrm; exact rfl))))
      rw [hY]
      clear hY hZ S Y Z
      refine wk_mem rfl rfl (by k_ne) fun w₁ r hK => ?_
      obtain ⟨cs, hb, hc⟩ := ob_row X (hT.rely r)
      obtain ⟨e1, e2⟩ := hc i (by omega)
      rw [hE] at e2
      have c0 : w₁.cell? ⟨c.Ob, i * 2, none⟩ = some (.string (tx i)) := by simp [World.cell?, hb, e1]
      have c1 : w₁.cell? ⟨c.Ob, i * 2 + 1, none⟩ = some (.int .i64 0) := by simp [World.cell?, hb, e2]
      refine ⟨.agg #[.string (tx i), .int .i64 0], w₁, own, .inl (by go_simp), actK_read (fun e he => ?_), ?_⟩
      · have hm := mem_listed he
        simp [go_sem, c0, c1] at hm
        have ho := hT.hB c.Ob X.ok.ob (Ne.symm X.ok.wo)
        rcases hm with rfl | rfl
        · exact .inl (.inl ⟨_, _, rfl, ho⟩)
        · exact .inl (.inl ⟨_, _, rfl, ho⟩)
      replace hT := hT.rely r
      replace hv := hv.rely hin r
      clear hK r c0 c1 hb hc e1 e2
      walk_nrm
      obtain ⟨Y, hY⟩ : ∃ Y, Y = (fun bq aq kq cq => WK Try.prog true c.Ko (fun _ => False) (AtEnd Try.prog Post) own (G (Frame.at bq aq kq) cq) w₁) := ⟨_, rfl⟩
      obtain ⟨Z, hZ⟩ : ∃ Z, Z = (fun bq aq kq cq => WK Try.prog true c.Ko (fun _ => False) (AtEnd Try.prog Post) own (G { Frame.at bq aq kq with mode := .returning } cq) w₁) := ⟨_, rfl⟩
      have S : Sil Try.prog true (fun wq => Rly own w₁ wq ∧ c.Ko wq) Y Z := by rw [hY, hZ]; exact sil_wk _ w₁
      suffices h : Y _ _ _ _ by rw [hY] at h; exact h
      repeat (first
        | refine sl_done S ?_
        | refine sl_seq S ?_
        | refine sl_skip S ?_
        | (co_apply sl_region S (by simp only [List.size_toArray, List.length_cons, List.length_nil, Nat.reduceAdd, Nat.zero_add, List.range, List.range.loop]; exact rfl))
        | refine sl_true S rfl ?_
        | refine sl_false S rfl ?_
        | refine sl_ret S ?_
        | refine sl_block S ?_
        | refine sl_loop S ?_
        | refine sl_inBlock S ?_
        | (refine sl_exit S (k' := _) rfl ?_)
        | refine sl_end S ?_
        | (co_apply sl_off S rfl rfl; (focus (walk_nrm; exact rfl)))
        | (co_apply sl_op S rfl rfl (by k_ne); (focus (intro W _ K hK; go_simp; (try w_num); exact hK)); (focus (intro W _; simp [go_sem, *])); (focus (walk_nrm; exact rfl))))
      rw [hY]
      clear hY hZ S Y Z
      refine wk_mem rfl rfl (by k_ne) fun w₂ r hK => ⟨.pointer (some ⟨w₂.heap.size, 0, none⟩), w₂.alloc (.cells #[.string ⟨#[]⟩, .int .i64 0] 34), _, .inl (by go_simp), actK_alloc (fun e he => by have hm := mem_listed he; simp [go_sem] at hm), ?_⟩
      have hb1 : (w₂.alloc (.cells #[.string ⟨#[]⟩, .int .i64 0] 34)).heap[w₂.heap.size]? = some (.cells #[.string ⟨#[]⟩, .int .i64 0] 34) := (alloc_at _ _).1
      have hNo : ¬ own w₂.heap.size := fun h => absurd ((hT.rely r).hS _ h) (Nat.lt_irrefl _)
      have hN : c.B ≤ w₂.heap.size := (hT.rely r).hN
      replace hv := (hv.rely hin r).alloc hin (hT.rely r).hS (.cells #[.string ⟨#[]⟩, .int .i64 0] 34)
      replace hT := (hT.rely r).alloc (.cells #[.string ⟨#[]⟩, .int .i64 0] 34)
      clear hK r
      generalize w₂.alloc (.cells #[.string ⟨#[]⟩, .int .i64 0] 34) = w₃ at hb1 hv hT ⊢
      generalize w₂.heap.size = N at hb1 hNo hN hT ⊢
      walk_nrm
      obtain ⟨Y, hY⟩ : ∃ Y, Y = (fun bq aq kq cq => WK Try.prog true c.Ko (fun _ => False) (AtEnd Try.prog Post) (fun b => own b ∨ b = N) (G (Frame.at bq aq kq) cq) w₃) := ⟨_, rfl⟩
      obtain ⟨Z, hZ⟩ : ∃ Z, Z = (fun bq aq kq cq => WK Try.prog true c.Ko (fun _ => False) (AtEnd Try.prog Post) (fun b => own b ∨ b = N) (G { Frame.at bq aq kq with mode := .returning } cq) w₃) := ⟨_, rfl⟩
      have S : Sil Try.prog true (fun wq => Rly (fun b => own b ∨ b = N) w₃ wq ∧ c.Ko wq) Y Z := by rw [hY, hZ]; exact sil_wk _ w₃
      suffices h : Y _ _ _ _ by rw [hY] at h; exact h
      repeat (first
        | refine sl_done S ?_
        | refine sl_seq S ?_
        | refine sl_skip S ?_
        | (co_apply sl_region S (by simp only [List.size_toArray, List.length_cons, List.length_nil, Nat.reduceAdd, Nat.zero_add, List.range, List.range.loop]; exact rfl))
        | refine sl_true S rfl ?_
        | refine sl_false S rfl ?_
        | refine sl_ret S ?_
        | refine sl_block S ?_
        | refine sl_loop S ?_
        | refine sl_inBlock S ?_
        | (refine sl_exit S (k' := _) rfl ?_)
        | refine sl_end S ?_
        | (co_apply sl_off S rfl rfl; (focus (walk_nrm; exact rfl)))
        | (co_apply sl_op S rfl rfl (by k_ne); (focus (intro W _ K hK; go_simp; (try w_num); exact hK)); (focus (intro W _; simp [go_sem, *])); (focus (walk_nrm; exact rfl))))
      rw [hY]
      clear hY hZ S Y Z
      refine WK.step fun w₄ r hK => ⟨(fun b => own b ∨ b = N), _, _, ⟨_, stepG_two (w := w₄) rfl rfl (by k_ne) rfl rfl rfl ((r.kept N (.inr rfl)).trans hb1) (by simp) rfl rfl Try.sizeOf34 (fun w es => by simp [go_sem]) (by kernel_rfl), rfl, actK_own (.inr rfl) (Go.Conc.Aside.put N w₄ _) (fun e he => ?_)⟩, ?_⟩
      · simp at he
        rcases he with rfl | rfl
        · exact .inl (.inl ⟨_, _, rfl, .inr rfl⟩)
        · exact .inl (.inl ⟨_, _, rfl, .inr rfl⟩)
      have hb2 : ({ w₄ with heap := w₄.heap.setIfInBounds N (.cells (((#[.string ⟨#[]⟩, .int .i64 0] : Array Value).setIfInBounds 0 (.string (tx i))).setIfInBounds (0 + 1) (.int .i64 0)) 34) } : World).heap[N]? = some (.cells #[.string (tx i), .int .i64 0] 34) := heap_put ((r.kept N (.inr rfl)).trans hb1)
      have hv2 := (hv.rely (hin.mono fun b hb => .inl hb) r).set hin hNo (.cells (((#[.string ⟨#[]⟩, .int .i64 0] : Array Value).setIfInBounds 0 (.string (tx i))).setIfInBounds (0 + 1) (.int .i64 0)) 34)
      have hT2 := (hT.rely r).set hN (.cells (((#[.string ⟨#[]⟩, .int .i64 0] : Array Value).setIfInBounds 0 (.string (tx i))).setIfInBounds (0 + 1) (.int .i64 0)) 34)
      clear hK r hb1 hv hT
      generalize ({ w₄ with heap := w₄.heap.setIfInBounds N (.cells (((#[.string ⟨#[]⟩, .int .i64 0] : Array Value).setIfInBounds 0 (.string (tx i))).setIfInBounds (0 + 1) (.int .i64 0)) 34) } : World) = w₅ at hb2 hv2 hT2 ⊢
      walk_nrm
      obtain ⟨Y, hY⟩ : ∃ Y, Y = (fun bq aq kq cq => WK Try.prog true c.Ko (fun _ => False) (AtEnd Try.prog Post) (fun b => own b ∨ b = N) (G (Frame.at bq aq kq) cq) w₅) := ⟨_, rfl⟩
      obtain ⟨Z, hZ⟩ : ∃ Z, Z = (fun bq aq kq cq => WK Try.prog true c.Ko (fun _ => False) (AtEnd Try.prog Post) (fun b => own b ∨ b = N) (G { Frame.at bq aq kq with mode := .returning } cq) w₅) := ⟨_, rfl⟩
      have S : Sil Try.prog true (fun wq => Rly (fun b => own b ∨ b = N) w₅ wq ∧ c.Ko wq) Y Z := by rw [hY, hZ]; exact sil_wk _ w₅
      suffices h : Y _ _ _ _ by rw [hY] at h; exact h
      repeat (first
        | refine sl_done S ?_
        | refine sl_seq S ?_
        | refine sl_skip S ?_
        | (co_apply sl_region S (by simp only [List.size_toArray, List.length_cons, List.length_nil, Nat.reduceAdd, Nat.zero_add, List.range, List.range.loop]; exact rfl))
        | refine sl_true S rfl ?_
        | refine sl_false S rfl ?_
        | refine sl_ret S ?_
        | refine sl_block S ?_
        | refine sl_loop S ?_
        | refine sl_inBlock S ?_
        | (refine sl_exit S (k' := _) rfl ?_)
        | refine sl_end S ?_
        | (co_apply sl_off S rfl rfl; (focus (walk_nrm; exact rfl)))
        | (co_apply sl_op S rfl rfl (by k_ne); (focus (intro W _ K hK; go_simp; (try w_num); exact hK)); (focus (intro W _; simp [go_sem, *])); (focus (walk_nrm; exact rfl))))
      rw [hY]
      refine wk_op rfl rfl (by k_ne) (v := .int .i64 0) (fun w₁ r hK Q hQ => ?_) (fun w₁ r hK e he => ?_) (by walk_nrm; exact rfl) ?_
      · have hc : w₁.cell? ⟨N, 1, none⟩ = some (.int .i64 0) := (Go.ConcN.cell_of_block (r.kept N (.inr rfl)) 1).trans (by simp [World.cell?, hb2])
        go_simp
        exact hQ
      · have hc : w₁.cell? ⟨N, 1, none⟩ = some (.int .i64 0) := (Go.ConcN.cell_of_block (r.kept N (.inr rfl)) 1).trans (by simp [World.cell?, hb2])
        simp [go_sem, hc] at he
        subst he
        exact .inl (.inl ⟨_, _, rfl, .inr rfl⟩)
      suffices h : Y _ _ _ _ by rw [hY] at h; exact h
      repeat (first
        | refine sl_done S ?_
        | refine sl_seq S ?_
        | refine sl_skip S ?_
        | (co_apply sl_region S (by simp only [List.size_toArray, List.length_cons, List.length_nil, Nat.reduceAdd, Nat.zero_add, List.range, List.range.loop]; exact rfl))
        | refine sl_true S rfl ?_
        | refine sl_false S rfl ?_
        | refine sl_ret S ?_
        | refine sl_block S ?_
        | refine sl_loop S ?_
        | refine sl_inBlock S ?_
        | (refine sl_exit S (k' := _) rfl ?_)
        | refine sl_end S ?_
        | (co_apply sl_off S rfl rfl; (focus (walk_nrm; exact rfl)))
        | (co_apply sl_op S rfl rfl (by k_ne); (focus (intro W _ K hK; go_simp; (try w_num); exact hK)); (focus (intro W _; simp [go_sem, *])); (focus (walk_nrm; exact rfl))))
      rw [hY]
      refine wk_op rfl rfl (by k_ne) (v := .string (tx i)) (fun w₁ r hK Q hQ => ?_) (fun w₁ r hK e he => ?_) (by walk_nrm; exact rfl) ?_
      · have hc : w₁.cell? ⟨N, 0, none⟩ = some (.string (tx i)) := (Go.ConcN.cell_of_block (r.kept N (.inr rfl)) 0).trans (by simp [World.cell?, hb2])
        go_simp
        exact hQ
      · have hc : w₁.cell? ⟨N, 0, none⟩ = some (.string (tx i)) := (Go.ConcN.cell_of_block (r.kept N (.inr rfl)) 0).trans (by simp [World.cell?, hb2])
        simp [go_sem, hc] at he
        subst he
        exact .inl (.inl ⟨_, _, rfl, .inr rfl⟩)
      suffices h : Y _ _ _ _ by rw [hY] at h; exact h
      repeat (first
        | refine sl_done S ?_
        | refine sl_seq S ?_
        | refine sl_skip S ?_
        | (co_apply sl_region S (by simp only [List.size_toArray, List.length_cons, List.length_nil, Nat.reduceAdd, Nat.zero_add, List.range, List.range.loop]; exact rfl))
        | refine sl_true S rfl ?_
        | refine sl_false S rfl ?_
        | refine sl_ret S ?_
        | refine sl_block S ?_
        | refine sl_loop S ?_
        | refine sl_inBlock S ?_
        | (refine sl_exit S (k' := _) rfl ?_)
        | refine sl_end S ?_
        | (co_apply sl_off S rfl rfl; (focus (walk_nrm; exact rfl)))
        | (co_apply sl_op S rfl rfl (by k_ne); (focus (intro W _ K hK; go_simp; (try w_num); exact hK)); (focus (intro W _; simp [go_sem, *])); (focus (walk_nrm; exact rfl))))
      rw [hY]
      clear hY hZ S Y Z
      refine wk_mem rfl rfl (by k_ne) fun w₆ r hK => ⟨.slice (some ⟨w₆.heap.size, 0, none⟩) 1 1, w₆.alloc (.cells #[.string (tx i)] 9), _, .inl (by go_simp), actK_alloc (fun e he => by have hm := mem_listed he; simp [go_sem] at hm), ?_⟩
      have hb3 : (w₆.alloc (.cells #[.string (tx i)] 9)).heap[w₆.heap.size]? = some (.cells #[.string (tx i)] 9) := (alloc_at _ _).1
      have hin2 : RowIn (fun b => own b ∨ b = N) v7 := hin.mono fun b hb => .inl hb
      have hMo : ¬ (fun b => own b ∨ b = N) w₆.heap.size := fun h => absurd ((hT2.rely r).hS _ h) (Nat.lt_irrefl _)
      have hM : c.B ≤ w₆.heap.size := (hT2.rely r).hN
      have hv3 := (hv2.rely hin2 r).alloc hin2 (hT2.rely r).hS (.cells #[.string (tx i)] 9)
      have hT3 := (hT2.rely r).alloc (.cells #[.string (tx i)] 9)
      clear hK r hv2 hT2
      generalize w₆.alloc (.cells #[.string (tx i)] 9) = w₇ at hb3 hv3 hT3 ⊢
      generalize w₆.heap.size = M at hb3 hMo hM hT3 ⊢
      walk_nrm
      refine wk_append rfl rfl (by k_ne) rfl rfl rfl hT3 hv3 (hin2.mono fun b hb => .inl hb) hb3 (.inr rfl) hM X.glob (by rw [txs_len]; have := X.n16; omega) (fun g o n m e x => hMo (by have := hin2 g o n m e; rw [x] at this; exact this)) fun own' w₈ v' hT4 hv4 hin4 hsub hoth _ => ?_
      rw [← txs_succ] at hv4
      walk_nrm
      obtain ⟨Y, hY⟩ : ∃ Y, Y = (fun bq aq kq cq => WK Try.prog true c.Ko (fun _ => False) (AtEnd Try.prog Post) own' (G (Frame.at bq aq kq) cq) w₈) := ⟨_, rfl⟩
      obtain ⟨Z, hZ⟩ : ∃ Z, Z = (fun bq aq kq cq => WK Try.prog true c.Ko (fun _ => False) (AtEnd Try.prog Post) own' (G { Frame.at bq aq kq with mode := .returning } cq) w₈) := ⟨_, rfl⟩
      have S : Sil Try.prog true (fun wq => Rly own' w₈ wq ∧ c.Ko wq) Y Z := by rw [hY, hZ]; exact sil_wk _ w₈
      suffices h : Y _ _ _ _ by rw [hY] at h; exact h
      repeat (first
        | refine sl_done S ?_
        | refine sl_seq S ?_
        | refine sl_skip S ?_
        | (co_apply sl_region S (by simp only [List.size_toArray, List.length_cons, List.length_nil, Nat.reduceAdd, Nat.zero_add, List.range, List.range.loop]; exact rfl))
        | refine sl_true S rfl ?_
        | refine sl_false S rfl ?_
        | refine sl_ret S ?_
        | refine sl_block S ?_
        | refine sl_loop S ?_
        | refine sl_inBlock S ?_
        | (refine sl_exit S (k' := _) rfl ?_)
        | refine sl_end S ?_
        | (co_apply sl_off S rfl rfl; (focus (walk_nrm; exact rfl)))
        | (co_apply sl_op S rfl rfl (by k_ne); (focus (intro W _ K hK; go_simp; (try w_num); exact hK)); (focus (intro W _; simp [go_sem, *])); (focus (walk_nrm; exact rfl))))
      refine sl_inLoop S ?_
      rw [hY]
      refine ih (i + 1) (by omega) (fun a ha => ?_) own' w₈ _ v' hT4 hv4 hin4 ⟨rfl, rfl, rfl, rfl, ?_⟩
      · by_cases e : a = i
        · rw [e]; exact hz
        · exact he a (by omega)
      · show some (Value.int .i64 (IntKind.i64.wrap ((i : Int) + 1))) = _
        rw [show IntKind.i64.wrap ((i : Int) + 1) = ((i + 1 : Nat) : Int) by rw [IntKind.wrap_i64]; have := X.n16; omega]
    · obtain ⟨E, hE⟩ : ∃ E, er i = E := ⟨_, rfl⟩
      rw [hE] at hz
      have hz2 : (E != 0) = true := by simpa using hz
      obtain ⟨Y, hY⟩ : ∃ Y, Y = (fun bq aq kq cq => WK Try.prog true c.Ko (fun _ => False) (AtEnd Try.prog Post) own (G (Frame.at bq aq kq) cq) w) := ⟨_, rfl⟩
      obtain ⟨Z, hZ⟩ : ∃ Z, Z = (fun bq aq kq cq => WK Try.prog true c.Ko (fun _ => False) (AtEnd Try.prog Post) own (G { Frame.at bq aq kq with mode := .returning } cq) w) := ⟨_, rfl⟩
      have S : Sil Try.prog true (fun wq => Rly own w wq ∧ c.Ko wq) Y Z := by rw [hY, hZ]; exact sil_wk _ w
      suffices h : Y _ _ _ _ by rw [hY] at h; exact h
      repeat (first
        | refine sl_done S ?_
        | refine sl_seq S ?_
        | refine sl_skip S ?_
        | (co_apply sl_region S (by simp only [List.size_toArray, List.length_cons, List.length_nil, Nat.reduceAdd, Nat.zero_add, List.range, List.range.loop]; exact rfl))
        | refine sl_true S rfl ?_
        | refine sl_false S rfl ?_
        | refine sl_ret S ?_
        | refine sl_block S ?_
        | refine sl_loop S ?_
        | refine sl_inBlock S ?_
        | (refine sl_exit S (k' := _) rfl ?_)
        | refine sl_end S ?_
        | (co_apply sl_off S rfl rfl; (focus (walk_nrm; exact rfl)))
        | (co_apply sl_op S rfl rfl (by k_ne); (focus (intro W _ K hK; go_simp; (try w_num); exact hK)); (focus (intro W _; simp [go_sem, *])); (focus (walk_nrm; exact rfl))))
      rw [hY]
      clear hY hZ S Y Z
      refine wk_mem rfl rfl (by k_ne) fun w₁ r hK => ?_
      obtain ⟨cs, hb, hc⟩ := ob_row X (hT.rely r)
      obtain ⟨e1, e2⟩ := hc i (by omega)
      rw [hE] at e2
      have c0 : w₁.cell? ⟨c.Ob, i * 2, none⟩ = some (.string (tx i)) := by simp [World.cell?, hb, e1]
      have c1 : w₁.cell? ⟨c.Ob, i * 2 + 1, none⟩ = some (.int .i64 E) := by simp [World.cell?, hb, e2]
      refine ⟨.agg #[.string (tx i), .int .i64 E], w₁, own, .inl (by go_simp), actK_read (fun e he => ?_), ?_⟩
      · have hm := mem_listed he
        simp [go_sem, c0, c1] at hm
        have ho := hT.hB c.Ob X.ok.ob (Ne.symm X.ok.wo)
        rcases hm with rfl | rfl
        · exact .inl (.inl ⟨_, _, rfl, ho⟩)
        · exact .inl (.inl ⟨_, _, rfl, ho⟩)
      replace hT := hT.rely r
      replace hv := hv.rely hin r
      clear hK r c0 c1 hb hc e1 e2
      walk_nrm
      obtain ⟨Y, hY⟩ : ∃ Y, Y = (fun bq aq kq cq => WK Try.prog true c.Ko (fun _ => False) (AtEnd Try.prog Post) own (G (Frame.at bq aq kq) cq) w₁) := ⟨_, rfl⟩
      obtain ⟨Z, hZ⟩ : ∃ Z, Z = (fun bq aq kq cq => WK Try.prog true c.Ko (fun _ => False) (AtEnd Try.prog Post) own (G { Frame.at bq aq kq with mode := .returning } cq) w₁) := ⟨_, rfl⟩
      have S : Sil Try.prog true (fun wq => Rly own w₁ wq ∧ c.Ko wq) Y Z := by rw [hY, hZ]; exact sil_wk _ w₁
      suffices h : Y _ _ _ _ by rw [hY] at h; exact h
      repeat (first
        | refine sl_done S ?_
        | refine sl_seq S ?_
        | refine sl_skip S ?_
        | (co_apply sl_region S (by simp only [List.size_toArray, List.length_cons, List.length_nil, Nat.reduceAdd, Nat.zero_add, List.range, List.range.loop]; exact rfl))
        | refine sl_true S rfl ?_
        | refine sl_false S rfl ?_
        | refine sl_ret S ?_
        | refine sl_block S ?_
        | refine sl_loop S ?_
        | refine sl_inBlock S ?_
        | (refine sl_exit S (k' := _) rfl ?_)
        | refine sl_end S ?_
        | (co_apply sl_off S rfl rfl; (focus (walk_nrm; exact rfl)))
        | (co_apply sl_op S rfl rfl (by k_ne); (focus (intro W _ K hK; go_simp; (try w_num); exact hK)); (focus (intro W _; simp [go_sem, *])); (focus (walk_nrm; exact rfl))))
      rw [hY]
      clear hY hZ S Y Z
      refine wk_mem rfl rfl (by k_ne) fun w₂ r hK => ⟨.pointer (some ⟨w₂.heap.size, 0, none⟩), w₂.alloc (.cells #[.string ⟨#[]⟩, .int .i64 0] 34), _, .inl (by go_simp), actK_alloc (fun e he => by have hm := mem_listed he; simp [go_sem] at hm), ?_⟩
      have hb1 : (w₂.alloc (.cells #[.string ⟨#[]⟩, .int .i64 0] 34)).heap[w₂.heap.size]? = some (.cells #[.string ⟨#[]⟩, .int .i64 0] 34) := (alloc_at _ _).1
      have hNo : ¬ own w₂.heap.size := fun h => absurd ((hT.rely r).hS _ h) (Nat.lt_irrefl _)
      have hN : c.B ≤ w₂.heap.size := (hT.rely r).hN
      replace hv := (hv.rely hin r).alloc hin (hT.rely r).hS (.cells #[.string ⟨#[]⟩, .int .i64 0] 34)
      replace hT := (hT.rely r).alloc (.cells #[.string ⟨#[]⟩, .int .i64 0] 34)
      clear hK r
      generalize w₂.alloc (.cells #[.string ⟨#[]⟩, .int .i64 0] 34) = w₃ at hb1 hv hT ⊢
      generalize w₂.heap.size = N at hb1 hNo hN hT ⊢
      walk_nrm
      obtain ⟨Y, hY⟩ : ∃ Y, Y = (fun bq aq kq cq => WK Try.prog true c.Ko (fun _ => False) (AtEnd Try.prog Post) (fun b => own b ∨ b = N) (G (Frame.at bq aq kq) cq) w₃) := ⟨_, rfl⟩
      obtain ⟨Z, hZ⟩ : ∃ Z, Z = (fun bq aq kq cq => WK Try.prog true c.Ko (fun _ => False) (AtEnd Try.prog Post) (fun b => own b ∨ b = N) (G { Frame.at bq aq kq with mode := .returning } cq) w₃) := ⟨_, rfl⟩
      have S : Sil Try.prog true (fun wq => Rly (fun b => own b ∨ b = N) w₃ wq ∧ c.Ko wq) Y Z := by rw [hY, hZ]; exact sil_wk _ w₃
      suffices h : Y _ _ _ _ by rw [hY] at h; exact h
      repeat (first
        | refine sl_done S ?_
        | refine sl_seq S ?_
        | refine sl_skip S ?_
        | (co_apply sl_region S (by simp only [List.size_toArray, List.length_cons, List.length_nil, Nat.reduceAdd, Nat.zero_add, List.range, List.range.loop]; exact rfl))
        | refine sl_true S rfl ?_
        | refine sl_false S rfl ?_
        | refine sl_ret S ?_
        | refine sl_block S ?_
        | refine sl_loop S ?_
        | refine sl_inBlock S ?_
        | (refine sl_exit S (k' := _) rfl ?_)
        | refine sl_end S ?_
        | (co_apply sl_off S rfl rfl; (focus (walk_nrm; exact rfl)))
        | (co_apply sl_op S rfl rfl (by k_ne); (focus (intro W _ K hK; go_simp; (try w_num); exact hK)); (focus (intro W _; simp [go_sem, *])); (focus (walk_nrm; exact rfl))))
      rw [hY]
      clear hY hZ S Y Z
      refine WK.step fun w₄ r hK => ⟨(fun b => own b ∨ b = N), _, _, ⟨_, stepG_two (w := w₄) rfl rfl (by k_ne) rfl rfl rfl ((r.kept N (.inr rfl)).trans hb1) (by simp) rfl rfl Try.sizeOf34 (fun w es => by simp [go_sem]) (by kernel_rfl), rfl, actK_own (.inr rfl) (Go.Conc.Aside.put N w₄ _) (fun e he => ?_)⟩, ?_⟩
      · simp at he
        rcases he with rfl | rfl
        · exact .inl (.inl ⟨_, _, rfl, .inr rfl⟩)
        · exact .inl (.inl ⟨_, _, rfl, .inr rfl⟩)
      have hb2 : ({ w₄ with heap := w₄.heap.setIfInBounds N (.cells (((#[.string ⟨#[]⟩, .int .i64 0] : Array Value).setIfInBounds 0 (.string (tx i))).setIfInBounds (0 + 1) (.int .i64 E)) 34) } : World).heap[N]? = some (.cells #[.string (tx i), .int .i64 E] 34) := heap_put ((r.kept N (.inr rfl)).trans hb1)
      have hv2 := (hv.rely (hin.mono fun b hb => .inl hb) r).set hin hNo (.cells (((#[.string ⟨#[]⟩, .int .i64 0] : Array Value).setIfInBounds 0 (.string (tx i))).setIfInBounds (0 + 1) (.int .i64 E)) 34)
      have hT2 := (hT.rely r).set hN (.cells (((#[.string ⟨#[]⟩, .int .i64 0] : Array Value).setIfInBounds 0 (.string (tx i))).setIfInBounds (0 + 1) (.int .i64 E)) 34)
      clear hK r hb1 hv hT
      generalize ({ w₄ with heap := w₄.heap.setIfInBounds N (.cells (((#[.string ⟨#[]⟩, .int .i64 0] : Array Value).setIfInBounds 0 (.string (tx i))).setIfInBounds (0 + 1) (.int .i64 E)) 34) } : World) = w₅ at hb2 hv2 hT2 ⊢
      walk_nrm
      obtain ⟨Y, hY⟩ : ∃ Y, Y = (fun bq aq kq cq => WK Try.prog true c.Ko (fun _ => False) (AtEnd Try.prog Post) (fun b => own b ∨ b = N) (G (Frame.at bq aq kq) cq) w₅) := ⟨_, rfl⟩
      obtain ⟨Z, hZ⟩ : ∃ Z, Z = (fun bq aq kq cq => WK Try.prog true c.Ko (fun _ => False) (AtEnd Try.prog Post) (fun b => own b ∨ b = N) (G { Frame.at bq aq kq with mode := .returning } cq) w₅) := ⟨_, rfl⟩
      have S : Sil Try.prog true (fun wq => Rly (fun b => own b ∨ b = N) w₅ wq ∧ c.Ko wq) Y Z := by rw [hY, hZ]; exact sil_wk _ w₅
      suffices h : Y _ _ _ _ by rw [hY] at h; exact h
      repeat (first
        | refine sl_done S ?_
        | refine sl_seq S ?_
        | refine sl_skip S ?_
        | (co_apply sl_region S (by simp only [List.size_toArray, List.length_cons, List.length_nil, Nat.reduceAdd, Nat.zero_add, List.range, List.range.loop]; exact rfl))
        | refine sl_true S rfl ?_
        | refine sl_false S rfl ?_
        | refine sl_ret S ?_
        | refine sl_block S ?_
        | refine sl_loop S ?_
        | refine sl_inBlock S ?_
        | (refine sl_exit S (k' := _) rfl ?_)
        | refine sl_end S ?_
        | (co_apply sl_off S rfl rfl; (focus (walk_nrm; exact rfl)))
        | (co_apply sl_op S rfl rfl (by k_ne); (focus (intro W _ K hK; go_simp; (try w_num); exact hK)); (focus (intro W _; simp [go_sem, *])); (focus (walk_nrm; exact rfl))))
      rw [hY]
      refine wk_op rfl rfl (by k_ne) (v := .int .i64 E) (fun w₁ r hK Q hQ => ?_) (fun w₁ r hK e he => ?_) (by walk_nrm; exact rfl) ?_
      · have hc : w₁.cell? ⟨N, 1, none⟩ = some (.int .i64 E) := (Go.ConcN.cell_of_block (r.kept N (.inr rfl)) 1).trans (by simp [World.cell?, hb2])
        go_simp
        exact hQ
      · have hc : w₁.cell? ⟨N, 1, none⟩ = some (.int .i64 E) := (Go.ConcN.cell_of_block (r.kept N (.inr rfl)) 1).trans (by simp [World.cell?, hb2])
        simp [go_sem, hc] at he
        subst he
        exact .inl (.inl ⟨_, _, rfl, .inr rfl⟩)
      suffices h : Y _ _ _ _ by rw [hY] at h; exact h
      repeat (first
        | refine sl_done S ?_
        | refine sl_seq S ?_
        | refine sl_skip S ?_
        | (co_apply sl_region S (by simp only [List.size_toArray, List.length_cons, List.length_nil, Nat.reduceAdd, Nat.zero_add, List.range, List.range.loop]; exact rfl))
        | refine sl_true S rfl ?_
        | refine sl_false S rfl ?_
        | refine sl_ret S ?_
        | refine sl_block S ?_
        | refine sl_loop S ?_
        | refine sl_inBlock S ?_
        | (refine sl_exit S (k' := _) rfl ?_)
        | refine sl_end S ?_
        | (co_apply sl_off S rfl rfl; (focus (walk_nrm; exact rfl)))
        | (co_apply sl_op S rfl rfl (by k_ne); (focus (intro W _ K hK; go_simp; (try w_num); exact hK)); (focus (intro W _; simp [go_sem, *])); (focus (walk_nrm; exact rfl))))
      rw [hY]
      clear hY hZ S Y Z
      refine WK.step fun w₆ r hK => ⟨(fun b => own b ∨ b = N), _, _, ⟨#[], stepG_region_draw, rfl, ⟨rfl, rfl, rfl, Nat.le_refl _, fun _ _ _ => rfl, fun b h1 h2 => absurd h1 (by have : b < w₆.heap.size := h2; omega), fun _ h => .inl h, fun _ h => h, fun e he => by simp at he⟩⟩, ?_⟩
      simp only [Region.schedule, follows_mixed, Bool.true_or, if_true]
      have hT3 : TS c wt (fun b => own b ∨ b = N) { w₆ with drawn := w₆.drawn + 1 } := ⟨(hT2.rely r).hB, (hT2.rely r).hS, (hT2.rely r).hK, (hT2.rely r).hN⟩
      have hb3 : ({ w₆ with drawn := w₆.drawn + 1 } : World).heap[N]? = some (.cells #[.string (tx i), .int .i64 E] 34) := (r.kept N (.inr rfl)).trans hb2
      have hord := d_orders (w₆.tape w₆.drawn (.order (base 4).fn 9))
      simp only [dopsO, LO, bodyO, Try.f4, Option.getD_some] at hord
      generalize ({ w₆ with drawn := w₆.drawn + 1 } : World) = w₇ at hT3 hb3 ⊢
      rcases hord with hord | hord | hord <;> rw [hord] <;> clear hord
      · obtain ⟨Y, hY⟩ : ∃ Y, Y = (fun bq aq kq cq => WK Try.prog true c.Ko (fun _ => False) (AtEnd Try.prog Post) (fun b => own b ∨ b = N) (G (Frame.at bq aq kq) cq) w₇) := ⟨_, rfl⟩
        obtain ⟨Z, hZ⟩ : ∃ Z, Z = (fun bq aq kq cq => WK Try.prog true c.Ko (fun _ => False) (AtEnd Try.prog Post) (fun b => own b ∨ b = N) (G { Frame.at bq aq kq with mode := .returning } cq) w₇) := ⟨_, rfl⟩
        have S : Sil Try.prog true (fun wq => Rly (fun b => own b ∨ b = N) w₇ wq ∧ c.Ko wq) Y Z := by rw [hY, hZ]; exact sil_wk _ w₇
        suffices h : Y _ _ _ _ by rw [hY] at h; exact h
        repeat (first
          | refine sl_done S ?_
          | refine sl_seq S ?_
          | refine sl_skip S ?_
          | (co_apply sl_region S (by simp only [List.size_toArray, List.length_cons, List.length_nil, Nat.reduceAdd, Nat.zero_add, List.range, List.range.loop]; exact rfl))
          | refine sl_true S rfl ?_
          | refine sl_false S rfl ?_
          | refine sl_ret S ?_
          | refine sl_block S ?_
          | refine sl_loop S ?_
          | refine sl_inBlock S ?_
          | (refine sl_exit S (k' := _) rfl ?_)
          | refine sl_end S ?_
          | (co_apply sl_off S rfl rfl; (focus (walk_nrm; exact rfl)))
          | (co_apply sl_op S rfl rfl (by k_ne); (focus (intro W _ K hK; go_simp; (try w_num); exact hK)); (focus (intro W _; simp [go_sem, *])); (focus (walk_nrm; exact rfl))))
        rw [hY]
        refine wk_op rfl rfl (by k_ne) (v := .int .i64 E) (fun w₁ r hK Q hQ => ?_) (fun w₁ r hK e he => ?_) (by walk_nrm; exact rfl) ?_
        · have hc : w₁.cell? ⟨N, 1, none⟩ = some (.int .i64 E) := (Go.ConcN.cell_of_block (r.kept N (.inr rfl)) 1).trans (by simp [World.cell?, hb3])
          go_simp
          exact hQ
        · have hc : w₁.cell? ⟨N, 1, none⟩ = some (.int .i64 E) := (Go.ConcN.cell_of_block (r.kept N (.inr rfl)) 1).trans (by simp [World.cell?, hb3])
          simp [go_sem, hc] at he
          subst he
          exact .inl (.inl ⟨_, _, rfl, .inr rfl⟩)
        suffices h : Y _ _ _ _ by rw [hY] at h; exact h
        repeat (first
          | refine sl_done S ?_
          | refine sl_seq S ?_
          | refine sl_skip S ?_
          | (co_apply sl_region S (by simp only [List.size_toArray, List.length_cons, List.length_nil, Nat.reduceAdd, Nat.zero_add, List.range, List.range.loop]; exact rfl))
          | refine sl_true S rfl ?_
          | refine sl_false S rfl ?_
          | refine sl_ret S ?_
          | refine sl_block S ?_
          | refine sl_loop S ?_
          | refine sl_inBlock S ?_
          | (refine sl_exit S (k' := _) rfl ?_)
          | refine sl_end S ?_
          | (co_apply sl_off S rfl rfl; (focus (walk_nrm; exact rfl)))
          | (co_apply sl_op S rfl rfl (by k_ne); (focus (intro W _ K hK; go_simp; (try w_num); exact hK)); (focus (intro W _; simp [go_sem, *])); (focus (walk_nrm; exact rfl))))
        rw [hZ]
        clear hY hZ S Y Z
        refine WK.silent rfl (fun w₁ r _ => (stepG_leave (b := base 4) (c := bL.at aL (.inRegion opsL (iL :: restL) :: kL)) rfl rfl Try.func4 (results_tmp2 rfl _ _ _) (events_results_tmp2 rfl _ _)).trans (by rw [Frame.finish_at])) ?_
        exact hk _ w₇ _ hT3 (.inl ⟨i, by omega, he, by rw [hE]; exact hz, by rw [hE]; rfl⟩)
      · obtain ⟨Y, hY⟩ : ∃ Y, Y = (fun bq aq kq cq => WK Try.prog true c.Ko (fun _ => False) (AtEnd Try.prog Post) (fun b => own b ∨ b = N) (G (Frame.at bq aq kq) cq) w₇) := ⟨_, rfl⟩
        obtain ⟨Z, hZ⟩ : ∃ Z, Z = (fun bq aq kq cq => WK Try.prog true c.Ko (fun _ => False) (AtEnd Try.prog Post) (fun b => own b ∨ b = N) (G { Frame.at bq aq kq with mode := .returning } cq) w₇) := ⟨_, rfl⟩
        have S : Sil Try.prog true (fun wq => Rly (fun b => own b ∨ b = N) w₇ wq ∧ c.Ko wq) Y Z := by rw [hY, hZ]; exact sil_wk _ w₇
        suffices h : Y _ _ _ _ by rw [hY] at h; exact h
        repeat (first
          | refine sl_done S ?_
          | refine sl_seq S ?_
          | refine sl_skip S ?_
          | (co_apply sl_region S (by simp only [List.size_toArray, List.length_cons, List.length_nil, Nat.reduceAdd, Nat.zero_add, List.range, List.range.loop]; exact rfl))
          | refine sl_true S rfl ?_
          | refine sl_false S rfl ?_
          | refine sl_ret S ?_
          | refine sl_block S ?_
          | refine sl_loop S ?_
          | refine sl_inBlock S ?_
          | (refine sl_exit S (k' := _) rfl ?_)
          | refine sl_end S ?_
          | (co_apply sl_off S rfl rfl; (focus (walk_nrm; exact rfl)))
          | (co_apply sl_op S rfl rfl (by k_ne); (focus (intro W _ K hK; go_simp; (try w_num); exact hK)); (focus (intro W _; simp [go_sem, *])); (focus (walk_nrm; exact rfl))))
        rw [hY]
        refine wk_op rfl rfl (by k_ne) (v := .int .i64 E) (fun w₁ r hK Q hQ => ?_) (fun w₁ r hK e he => ?_) (by walk_nrm; exact rfl) ?_
        · have hc : w₁.cell? ⟨N, 1, none⟩ = some (.int .i64 E) := (Go.ConcN.cell_of_block (r.kept N (.inr rfl)) 1).trans (by simp [World.cell?, hb3])
          go_simp
          exact hQ
        · have hc : w₁.cell? ⟨N, 1, none⟩ = some (.int .i64 E) := (Go.ConcN.cell_of_block (r.kept N (.inr rfl)) 1).trans (by simp [World.cell?, hb3])
          simp [go_sem, hc] at he
          subst he
          exact .inl (.inl ⟨_, _, rfl, .inr rfl⟩)
        suffices h : Y _ _ _ _ by rw [hY] at h; exact h
        repeat (first
          | refine sl_done S ?_
          | refine sl_seq S ?_
          | refine sl_skip S ?_
          | (co_apply sl_region S (by simp only [List.size_toArray, List.length_cons, List.length_nil, Nat.reduceAdd, Nat.zero_add, List.range, List.range.loop]; exact rfl))
          | refine sl_true S rfl ?_
          | refine sl_false S rfl ?_
          | refine sl_ret S ?_
          | refine sl_block S ?_
          | refine sl_loop S ?_
          | refine sl_inBlock S ?_
          | (refine sl_exit S (k' := _) rfl ?_)
          | refine sl_end S ?_
          | (co_apply sl_off S rfl rfl; (focus (walk_nrm; exact rfl)))
          | (co_apply sl_op S rfl rfl (by k_ne); (focus (intro W _ K hK; go_simp; (try w_num); exact hK)); (focus (intro W _; simp [go_sem, *])); (focus (walk_nrm; exact rfl))))
        rw [hZ]
        clear hY hZ S Y Z
        refine WK.silent rfl (fun w₁ r _ => (stepG_leave (b := base 4) (c := bL.at aL (.inRegion opsL (iL :: restL) :: kL)) rfl rfl Try.func4 (results_tmp2 rfl _ _ _) (events_results_tmp2 rfl _ _)).trans (by rw [Frame.finish_at])) ?_
        exact hk _ w₇ _ hT3 (.inl ⟨i, by omega, he, by rw [hE]; exact hz, by rw [hE]; rfl⟩)
      · obtain ⟨Y, hY⟩ : ∃ Y, Y = (fun bq aq kq cq => WK Try.prog true c.Ko (fun _ => False) (AtEnd Try.prog Post) (fun b => own b ∨ b = N) (G (Frame.at bq aq kq) cq) w₇) := ⟨_, rfl⟩
        obtain ⟨Z, hZ⟩ : ∃ Z, Z = (fun bq aq kq cq => WK Try.prog true c.Ko (fun _ => False) (AtEnd Try.prog Post) (fun b => own b ∨ b = N) (G { Frame.at bq aq kq with mode := .returning } cq) w₇) := ⟨_, rfl⟩
        have S : Sil Try.prog true (fun wq => Rly (fun b => own b ∨ b = N) w₇ wq ∧ c.Ko wq) Y Z := by rw [hY, hZ]; exact sil_wk _ w₇
        suffices h : Y _ _ _ _ by rw [hY] at h; exact h
        repeat (first
          | refine sl_done S ?_
          | refine sl_seq S ?_
          | refine sl_skip S ?_
          | (co_apply sl_region S (by simp only [List.size_toArray, List.length_cons, List.length_nil, Nat.reduceAdd, Nat.zero_add, List.range, List.range.loop]; exact rfl))
          | refine sl_true S rfl ?_
          | refine sl_false S rfl ?_
          | refine sl_ret S ?_
          | refine sl_block S ?_
          | refine sl_loop S ?_
          | refine sl_inBlock S ?_
          | (refine sl_exit S (k' := _) rfl ?_)
          | refine sl_end S ?_
          | (co_apply sl_off S rfl rfl; (focus (walk_nrm; exact rfl)))
          | (co_apply sl_op S rfl rfl (by k_ne); (focus (intro W _ K hK; go_simp; (try w_num); exact hK)); (focus (intro W _; simp [go_sem, *])); (focus (walk_nrm; exact rfl))))
        rw [hY]
        refine wk_op rfl rfl (by k_ne) (v := .int .i64 E) (fun w₁ r hK Q hQ => ?_) (fun w₁ r hK e he => ?_) (by walk_nrm; exact rfl) ?_
        · have hc : w₁.cell? ⟨N, 1, none⟩ = some (.int .i64 E) := (Go.ConcN.cell_of_block (r.kept N (.inr rfl)) 1).trans (by simp [World.cell?, hb3])
          go_simp
          exact hQ
        · have hc : w₁.cell? ⟨N, 1, none⟩ = some (.int .i64 E) := (Go.ConcN.cell_of_block (r.kept N (.inr rfl)) 1).trans (by simp [World.cell?, hb3])
          simp [go_sem, hc] at he
          subst he
          exact .inl (.inl ⟨_, _, rfl, .inr rfl⟩)
        suffices h : Y _ _ _ _ by rw [hY] at h; exact h
        repeat (first
          | refine sl_done S ?_
          | refine sl_seq S ?_
          | refine sl_skip S ?_
          | (co_apply sl_region S (by simp only [List.size_toArray, List.length_cons, List.length_nil, Nat.reduceAdd, Nat.zero_add, List.range, List.range.loop]; exact rfl))
          | refine sl_true S rfl ?_
          | refine sl_false S rfl ?_
          | refine sl_ret S ?_
          | refine sl_block S ?_
          | refine sl_loop S ?_
          | refine sl_inBlock S ?_
          | (refine sl_exit S (k' := _) rfl ?_)
          | refine sl_end S ?_
          | (co_apply sl_off S rfl rfl; (focus (walk_nrm; exact rfl)))
          | (co_apply sl_op S rfl rfl (by k_ne); (focus (intro W _ K hK; go_simp; (try w_num); exact hK)); (focus (intro W _; simp [go_sem, *])); (focus (walk_nrm; exact rfl))))
        rw [hZ]
        clear hY hZ S Y Z
        refine WK.silent rfl (fun w₁ r _ => (stepG_leave (b := base 4) (c := bL.at aL (.inRegion opsL (iL :: restL) :: kL)) rfl rfl Try.func4 (results_tmp2 rfl _ _ _) (events_results_tmp2 rfl _ _)).trans (by rw [Frame.finish_at])) ?_
        exact hk _ w₇ _ hT3 (.inl ⟨i, by omega, he, by rw [hE]; exact hz, by rw [hE]; rfl⟩)
end
end Go.Proofs.Ytebgcemglicjiaa

/- The law CrewOpens behind the join, walked as the starter's way. Printed by gen_cvg.py. No condition of ours. -/
namespace Go.Proofs.Ytebgcemglicjiaa
open Go.Conc Go.ConcN Go.RowKit Go.Conc.Lib
noncomputable def bodyL : Code := Try.f3.body.getD .skip
noncomputable def opsL1 : Array Oper := match bodyL with | .seq _ (.seq (.region _ ops _) _) => ops | _ => #[]
noncomputable def finL1 : Code := match bodyL with | .seq _ (.seq _ c) => c | _ => .skip
noncomputable def LL : Code := match bodyL with | .seq _ (.seq _ (.seq _ (.seq _ (.seq _ (.seq (.seq _ (.block _ (.loop c))) _))))) => c | _ => .skip
noncomputable def finL : Code := match bodyL with | .seq _ (.seq _ (.seq _ (.seq _ (.seq _ (.seq _ c))))) => c | _ => .skip
/-- A lone contract of a call on rows of plain cells is one beside others. -/
theorem lift_on {P : Program} {F : Nat → Bool} {main : Bool} (hF : okFuncs P F) (hB : okBodies P F) {f : FuncId} (hf : F f = true) {args : Array Value} {S : List Nat} {hS : ∀ b ∈ S, P.globals.size ≤ b} (ha : AR F (Ren.on P.globals.size S hS) args args) {v0 : Value} (hv : plainV v0 = true) {w : World}
    (hc : ∀ T, Calls P f args { w with tape := T } fun e _ => e = .returned v0) (hw : P.globals.size ≤ w.heap.size) (hfl : ∀ b ∈ S, FlatAt w b) (c : Frame) (rest : List Frame) :
    Way P main (Back v0 c rest) (Ren.on P.globals.size S hS).img (G (Frame.enter P f args .normal) (c :: rest)) w := by
  have hfr : FR P F (Ren.on P.globals.size S hS) (Frame.enter P f args .normal) (Frame.enter P f args .normal) := by
    obtain ⟨fn, hfn, hbody⟩ := hB f hf
    refine .mk hf (ha.append (AR.replicate _ VR.undef)) ?_ (.inl rfl)
    simp only [hfn, Option.bind]
    cases hb : fn.body with
    | none => rfl
    | some c => simp only [Option.getD, List.all_cons, List.all_nil, Bool.and_true]; exact hbody c hb
  have hends : Ends P v0 (Frame.enter P f args .normal) [] w := by
    intro T hT
    obtain ⟨e, w', fr, rfl, hs, _, hl⟩ := hc T [stub]
    exact ⟨fr, w', hs, hl⟩
  exact lift_way (main := main) hF hB (fun q x h => VR.plain_eq hv h) ⟨_, _, [], _, [], w, w, hfr, .nil, hr_on hw hfl, hends⟩
/-- Such a call, of the starter's. -/
theorem ts_call {c : Cfg} {wt : World} {Stop : (Nat → Prop) → Goroutine → World → Prop} {own : Nat → Prop} {w : World} {f : FuncId} {args : Array Value} {v0 : Value} {S : List Nat} {b : Frame} {a : Act} {ops : Array Oper} {i : Nat} {rest : List Nat} {k : List Item} {cs : List Frame} (hf : qF f = true) (hS : ∀ b ∈ S, Try.prog.globals.size ≤ b)
    (ha : AR qF (Ren.on Try.prog.globals.size S hS) args args) (hv : plainV v0 = true) (hT : TS c wt own w) (hG : Try.prog.globals.size ≤ c.B) (hown : ∀ b ∈ S, own b ∧ c.B ≤ b) (hfl : ∀ b ∈ S, FlatAt w b) (hc : ∀ T, Calls Try.prog f args { w with tape := T } fun e _ => e = .returned v0)
    (H : ∀ own' w', TS c wt own' w' → (∀ b, own b → b ∉ S → own' b ∧ w'.heap[b]? = w.heap[b]?) → WK Try.prog true c.Ko (fun _ => False) Stop own' (G (b.at (a.put ((ops[i]?).bind (·.dst)) v0) (.inRegion ops rest :: k)) cs) w') :
    WK Try.prog true c.Ko (fun _ => False) Stop own (G (Frame.enter Try.prog f args .normal) (b.at a (.inRegion ops (i :: rest) :: k) :: cs)) w := by
  have eo : (fun b => (own b ∧ b ∉ S) ∨ (Ren.on Try.prog.globals.size S hS).img b) = own := by
    funext b
    refine propext ⟨fun h => ?_, fun h => ?_⟩
    · rcases h with h | h
      · exact h.1
      · exact (hown b (Ren.on_img h)).1
    · by_cases hb : b ∈ S
      · exact .inr ⟨b, Ren.on_at hb⟩
      · exact .inl ⟨h, hb⟩
  rw [← eo]
  refine WK.of_way (lift_on qF_funcs qF_bodies hf ha hv hc (Nat.le_trans hG hT.hN) hfl _ _) (fun b hb => ⟨hT.hS b hb.1, fun h => hb.2 (Ren.on_img h)⟩) (fun own' g' w' hst hkeep hsz hnew => ?_)
  obtain rfl : g' = _ := hst
  rw [Frame.finish_at]
  have nS : ∀ b, b < c.B → b ∉ S := fun b hb hm => by have := (hown b hm).2; omega
  refine H _ w' ⟨fun b h1 h2 => .inl ⟨hT.hB b h1 h2, nS b h1⟩, fun b hb => ?_, fun b h1 h2 => (hkeep b ⟨hT.hB b h1 h2, nS b h1⟩).trans (hT.hK b h1 h2), Nat.le_trans hT.hN hsz⟩ fun b h1 h2 => ⟨.inl ⟨h1, h2⟩, hkeep b ⟨h1, h2⟩⟩
  rcases hb with hb | hb
  · have := hT.hS b hb.1; omega
  · rcases hnew b hb with h | h
    · have := hT.hS b (hown b (Ren.on_img h)).1; omega
    · exact h.2
/-- slices.Equal on two rows of the same strings. -/
theorem eq_rows {c : Cfg} {own : Nat → Prop} {w : World} {u v : Value} {xs : List ByteArray} (hu : SRow c.B 9 w u xs) (hv : SRow c.B 9 w v xs) (iu : RowIn own u) (iv : RowIn own v) (hG : Try.prog.globals.size ≤ c.B) (hl : xs.length ≤ 16) :
    ∃ (S : List Nat) (hS : ∀ b ∈ S, Try.prog.globals.size ≤ b), (∀ b ∈ S, own b ∧ c.B ≤ b) ∧ (∀ b ∈ S, FlatAt w b) ∧ AR qF (Ren.on Try.prog.globals.size S hS) #[u, v] #[u, v] ∧ ∀ T, Calls Try.prog 6 #[u, v] { w with tape := T } fun e _ => e = .returned (.bool true) := by
  have two : ∀ {p : Ren Try.prog.globals.size}, VR qF p u u → VR qF p v v → AR qF p #[u, v] #[u, v] := fun h1 h2 => (AR.empty.push h1).push h2
  have cells : ∀ {g cap : Nat} {cur : Array Value} {t : TypeId}, w.heap[g]? = some (.cells cur t (0, 0)) → cur.toList.take xs.length = xs.map Value.string → ∀ T j, j < xs.length → ({ w with tape := T } : World).cell? ⟨g, 0 + j, none⟩ = some (.string (xs.getD j ByteArray.empty)) := by
    intro g cap cur t h1 h2 T j hj
    have e1 : (cur.toList.take xs.length)[j]? = some (.string (xs.getD j ByteArray.empty)) := by
      rw [h2, List.getElem?_map, List.getElem?_eq_getElem hj]
      simp [List.getD_eq_getElem?_getD, List.getElem?_eq_getElem hj]
    rw [List.getElem?_take, if_pos hj] at e1
    have e2 : ({ w with tape := T } : World).heap[g]? = some (.cells cur t (0, 0)) := h1
    simp only [World.cell?, e2, Nat.zero_add]
    simpa using e1
  rcases hu with ⟨rfl, rfl⟩ | ⟨g, cap, cur, rfl, h1, h2, h3, h4, h5, h6, h7⟩
  · rcases hv with ⟨rfl, _⟩ | ⟨g', cap', cur', rfl, k1, k2, k3, k4, k5, k6, k7⟩
    · exact ⟨[], fun b hb => (by cases hb), fun b hb => (by cases hb), fun b hb => (by cases hb), two (.snil 0 0) (.snil 0 0), fun T => (Try.slices_Equal_string_empty none none 0 0 0 _ (by omega)).mono fun e w' h => h.1⟩
    · refine ⟨[g'], fun b hb => ?_, fun b hb => ?_, fun b hb => ?_, two (.snil 0 0) (.slice _ _ (Ren.on_at (by simp))), fun T => (Try.slices_Equal_string_empty none _ 0 0 cap' _ (by omega)).mono fun e w' h => h.1⟩
      · simp at hb; omega
      · simp at hb; subst hb; exact ⟨iv _ _ _ _ rfl, k1⟩
      · simp at hb; subst hb; exact ⟨_, _, _, k2, k7⟩
  · rcases hv with ⟨rfl, rfl⟩ | ⟨g', cap', cur', rfl, k1, k2, k3, k4, k5, k6, k7⟩
    · refine ⟨[g], fun b hb => ?_, fun b hb => ?_, fun b hb => ?_, two (.slice _ _ (Ren.on_at (by simp))) (.snil 0 0), fun T => (Try.slices_Equal_string_empty _ none cap 0 0 _ (by omega)).mono fun e w' h => h.1⟩
      · simp at hb; omega
      · simp at hb; subst hb; exact ⟨iu _ _ _ _ rfl, h1⟩
      · simp at hb; subst hb; exact ⟨_, _, _, h2, h7⟩
    · refine ⟨[g, g'], fun b hb => ?_, fun b hb => ?_, fun b hb => ?_, two (.slice _ _ (Ren.on_at (by simp))) (.slice _ _ (Ren.on_at (by simp))), fun T => (Try.slices_Equal_string g 0 xs.length cap g' 0 xs.length cap' xs xs _ (Nat.le_refl _) (Nat.le_refl _) (by omega) (by omega) (cells (cap := cap) h2 h6 T) (cells (cap := cap') k2 k6 T)).mono fun e w' h => ?_⟩
      · simp at hb; rcases hb with rfl | rfl <;> omega
      · simp at hb
        rcases hb with rfl | rfl
        · exact ⟨iu _ _ _ _ rfl, h1⟩
        · exact ⟨iv _ _ _ _ rfl, k1⟩
      · simp at hb
        rcases hb with rfl | rfl
        · exact ⟨_, _, _, h2, h7⟩
        · exact ⟨_, _, _, k2, k7⟩
      · rw [h.1]; simp
theorem array58 (T : Array Value) (h : T.size = 58) : ∃ v0 v1 v2 v3 v4 v5 v6 v7 v8 v9 v10 v11 v12 v13 v14 v15 v16 v17 v18 v19 v20 v21 v22 v23 v24 v25 v26 v27 v28 v29 v30 v31 v32 v33 v34 v35 v36 v37 v38 v39 v40 v41 v42 v43 v44 v45 v46 v47 v48 v49 v50 v51 v52 v53 v54 v55 v56 v57, T = #[v0, v1, v2, v3, v4, v5, v6, v7, v8, v9, v10, v11, v12, v13, v14, v15, v16, v17, v18, v19, v20, v21, v22, v23, v24, v25, v26, v27, v28, v29, v30, v31, v32, v33, v34, v35, v36, v37, v38, v39, v40, v41, v42, v43, v44, v45, v46, v47, v48, v49, v50, v51, v52, v53, v54, v55, v56, v57] := by
  obtain ⟨l⟩ := T
  simp only [List.size_toArray] at h
  rcases l with _ | ⟨v0, l⟩
  · simp at h
  rcases l with _ | ⟨v1, l⟩
  · simp at h
  rcases l with _ | ⟨v2, l⟩
  · simp at h
  rcases l with _ | ⟨v3, l⟩
  · simp at h
  rcases l with _ | ⟨v4, l⟩
  · simp at h
  rcases l with _ | ⟨v5, l⟩
  · simp at h
  rcases l with _ | ⟨v6, l⟩
  · simp at h
  rcases l with _ | ⟨v7, l⟩
  · simp at h
  rcases l with _ | ⟨v8, l⟩
  · simp at h
  rcases l with _ | ⟨v9, l⟩
  · simp at h
  rcases l with _ | ⟨v10, l⟩
  · simp at h
  rcases l with _ | ⟨v11, l⟩
  · simp at h
  rcases l with _ | ⟨v12, l⟩
  · simp at h
  rcases l with _ | ⟨v13, l⟩
  · simp at h
  rcases l with _ | ⟨v14, l⟩
  · simp at h
  rcases l with _ | ⟨v15, l⟩
  · simp at h
  rcases l with _ | ⟨v16, l⟩
  · simp at h
  rcases l with _ | ⟨v17, l⟩
  · simp at h
  rcases l with _ | ⟨v18, l⟩
  · simp at h
  rcases l with _ | ⟨v19, l⟩
  · simp at h
  rcases l with _ | ⟨v20, l⟩
  · simp at h
  rcases l with _ | ⟨v21, l⟩
  · simp at h
  rcases l with _ | ⟨v22, l⟩
  · simp at h
  rcases l with _ | ⟨v23, l⟩
  · simp at h
  rcases l with _ | ⟨v24, l⟩
  · simp at h
  rcases l with _ | ⟨v25, l⟩
  · simp at h
  rcases l with _ | ⟨v26, l⟩
  · simp at h
  rcases l with _ | ⟨v27, l⟩
  · simp at h
  rcases l with _ | ⟨v28, l⟩
  · simp at h
  rcases l with _ | ⟨v29, l⟩
  · simp at h
  rcases l with _ | ⟨v30, l⟩
  · simp at h
  rcases l with _ | ⟨v31, l⟩
  · simp at h
  rcases l with _ | ⟨v32, l⟩
  · simp at h
  rcases l with _ | ⟨v33, l⟩
  · simp at h
  rcases l with _ | ⟨v34, l⟩
  · simp at h
  rcases l with _ | ⟨v35, l⟩
  · simp at h
  rcases l with _ | ⟨v36, l⟩
  · simp at h
  rcases l with _ | ⟨v37, l⟩
  · simp at h
  rcases l with _ | ⟨v38, l⟩
  · simp at h
  rcases l with _ | ⟨v39, l⟩
  · simp at h
  rcases l with _ | ⟨v40, l⟩
  · simp at h
  rcases l with _ | ⟨v41, l⟩
  · simp at h
  rcases l with _ | ⟨v42, l⟩
  · simp at h
  rcases l with _ | ⟨v43, l⟩
  · simp at h
  rcases l with _ | ⟨v44, l⟩
  · simp at h
  rcases l with _ | ⟨v45, l⟩
  · simp at h
  rcases l with _ | ⟨v46, l⟩
  · simp at h
  rcases l with _ | ⟨v47, l⟩
  · simp at h
  rcases l with _ | ⟨v48, l⟩
  · simp at h
  rcases l with _ | ⟨v49, l⟩
  · simp at h
  rcases l with _ | ⟨v50, l⟩
  · simp at h
  rcases l with _ | ⟨v51, l⟩
  · simp at h
  rcases l with _ | ⟨v52, l⟩
  · simp at h
  rcases l with _ | ⟨v53, l⟩
  · simp at h
  rcases l with _ | ⟨v54, l⟩
  · simp at h
  rcases l with _ | ⟨v55, l⟩
  · simp at h
  rcases l with _ | ⟨v56, l⟩
  · simp at h
  rcases l with _ | ⟨v57, l⟩
  · simp at h
  rcases l with _ | ⟨x, l⟩
  · exact ⟨v0, v1, v2, v3, v4, v5, v6, v7, v8, v9, v10, v11, v12, v13, v14, v15, v16, v17, v18, v19, v20, v21, v22, v23, v24, v25, v26, v27, v28, v29, v30, v31, v32, v33, v34, v35, v36, v37, v38, v39, v40, v41, v42, v43, v44, v45, v46, v47, v48, v49, v50, v51, v52, v53, v54, v55, v56, v57, rfl⟩
  · simp at h
/-- The law's end. -/
def LPost (c : Cfg) (N : Nat) (v : Value) (w : World) : Prop := v = .bool true ∧ c.Ko w ∧ ∀ b, b < N → w.heap[b]? = c.w0.heap[b]?
/-- What the law reads and calls. -/
structure LCtx (c : Cfg) (wt : World) (ts tx : Nat → ByteArray) (er : Nat → Int) (a0 : Option Addr) (N : Nat) : Prop where
  row : ∀ i, i < c.n → ∃ b o, a0 = some ⟨b, o, none⟩ ∧ b < c.B ∧ b ≠ c.Wg ∧ wt.cell? ⟨b, o + i, none⟩ = some (.string (ts i))
  call : ∀ i, i < c.n → ∀ w, Calls Try.prog 5 #[.string (ts i)] w fun e _ => e = .returned (.tuple #[.string (tx i), .int .i64 (er i)])
  low : N ≤ c.B ∧ N ≤ c.Wg ∧ ∀ b, b < N → wt.heap[b]? = c.w0.heap[b]?
section
variable {c : Cfg} {wt : World} {ts tx : Nat → ByteArray} {er : Nat → Int} {a0 : Option Addr} {N : Nat}
set_option maxRecDepth 100000 in
set_option maxHeartbeats 8000000 in
theorem law_fin (X : TCtx c wt tx er) (L : LCtx c wt ts tx er a0 N) {own : Nat → Prop} {w : World} {T : Array Value} {ra v : Value} {e f : Int} (hT : TS c wt own w) (s0 : T.size = 58) (t5 : T[5]? = some ra) (t6 : T[6]? = some (.int .i64 e)) (t7 : T[7]? = some v) (t8 : T[8]? = some (.int .i64 f))
    (h : (f = 0 ∧ e = 0 ∧ SRow c.B 9 w ra (txs tx c.n) ∧ RowIn own ra ∧ SRow c.B 9 w v (txs tx c.n) ∧ RowIn own v) ∨ (f ≠ 0 ∧ e = f ∧ ra = .slice none 0 0)) :
    WK Try.prog true c.Ko (fun _ => False) (AtEnd Try.prog (LPost c N)) own (G ((base 3).at ⟨T, []⟩ [.code finL]) []) w := by
  obtain ⟨v0, v1, v2, v3, v4, v5, v6, v7, v8, v9, v10, v11, v12, v13, v14, v15, v16, v17, v18, v19, v20, v21, v22, v23, v24, v25, v26, v27, v28, v29, v30, v31, v32, v33, v34, v35, v36, v37, v38, v39, v40, v41, v42, v43, v44, v45, v46, v47, v48, v49, v50, v51, v52, v53, v54, v55, v56, v57, rfl⟩ := array58 T s0
  simp only [List.getElem?_toArray, List.getElem?_cons_zero, List.getElem?_cons_succ, Option.some.injEq] at t5 t6 t7 t8
  subst t5 t6 t7 t8
  have hn16 : (txs tx c.n).length ≤ 16 := by rw [txs_len]; exact X.n16
  simp only [finL, bodyL, Try.f3, Option.getD_some]
  rcases h with ⟨rfl, rfl, hu, iu, hv, iv⟩ | ⟨hf, rfl, rfl⟩
  · obtain ⟨S0, hS0, q1, q2, q3, q4⟩ := eq_rows hu hv iu iv X.glob hn16
    obtain ⟨Y, hY⟩ : ∃ Y, Y = (fun bq aq kq cq => WK Try.prog true c.Ko (fun _ => False) (AtEnd Try.prog (LPost c N)) own (G (Frame.at bq aq kq) cq) w) := ⟨_, rfl⟩
    obtain ⟨Z, hZ⟩ : ∃ Z, Z = (fun bq aq kq cq => WK Try.prog true c.Ko (fun _ => False) (AtEnd Try.prog (LPost c N)) own (G { Frame.at bq aq kq with mode := .returning } cq) w) := ⟨_, rfl⟩
    have S : Sil Try.prog true (fun wq => Rly own w wq ∧ c.Ko wq) Y Z := by rw [hY, hZ]; exact sil_wk _ w
    suffices h : Y _ _ _ _ by rw [hY] at h; exact h
    repeat (first
      | refine sl_done S ?_
      | refine sl_seq S ?_
      | refine sl_skip S ?_
      | (co_apply sl_region S (by simp only [List.size_toArray, List.length_cons, List.length_nil, Nat.reduceAdd, Nat.zero_add, List.range, List.range.loop]; exact rfl))
      | refine sl_true S rfl ?_
      | refine sl_false S rfl ?_
      | refine sl_ret S ?_
      | refine sl_block S ?_
      | refine sl_loop S ?_
      | refine sl_inBlock S ?_
      | (refine sl_exit S (k' := _) rfl ?_)
      | refine sl_end S ?_
      | (co_apply sl_off S rfl rfl; (focus (walk_nrm; exact rfl)))
      | (co_apply sl_op S rfl rfl (by k_ne); (focus (intro W _ K hK; go_simp; (try w_num); exact hK)); (focus (intro W _; simp [go_sem, *])); (focus (walk_nrm; exact rfl))))
    rw [hY]
    clear hY hZ S Y Z
    refine wk_enter rfl rfl (by k_ne) (f := 6) (args := #[v5, v7]) (fun w₁ => by go_simp) (fun w₁ => by simp [go_sem, callFunc, Try.func6, Try.f6]) ?_
    refine ts_call (S := S0) rfl hS0 q3 rfl hT X.glob q1 q2 q4 fun own' w' hT' _ => ?_
    walk_nrm
    obtain ⟨Y, hY⟩ : ∃ Y, Y = (fun bq aq kq cq => WK Try.prog true c.Ko (fun _ => False) (AtEnd Try.prog (LPost c N)) own' (G (Frame.at bq aq kq) cq) w') := ⟨_, rfl⟩
    obtain ⟨Z, hZ⟩ : ∃ Z, Z = (fun bq aq kq cq => WK Try.prog true c.Ko (fun _ => False) (AtEnd Try.prog (LPost c N)) own' (G { Frame.at bq aq kq with mode := .returning } cq) w') := ⟨_, rfl⟩
    have S : Sil Try.prog true (fun wq => Rly own' w' wq ∧ c.Ko wq) Y Z := by rw [hY, hZ]; exact sil_wk _ w'
    suffices h : Y _ _ _ _ by rw [hY] at h; exact h
    repeat (first
      | refine sl_done S ?_
      | refine sl_seq S ?_
      | refine sl_skip S ?_
      | (co_apply sl_region S (by simp only [List.size_toArray, List.length_cons, List.length_nil, Nat.reduceAdd, Nat.zero_add, List.range, List.range.loop]; exact rfl))
      | refine sl_true S rfl ?_
      | refine sl_false S rfl ?_
      | refine sl_ret S ?_
      | refine sl_block S ?_
      | refine sl_loop S ?_
      | refine sl_inBlock S ?_
      | (refine sl_exit S (k' := _) rfl ?_)
      | refine sl_end S ?_
      | (co_apply sl_off S rfl rfl; (focus (walk_nrm; exact rfl)))
      | (co_apply sl_op S rfl rfl (by k_ne); (focus (intro W _ K hK; go_simp; (try w_num); exact hK)); (focus (intro W _; simp [go_sem, *])); (focus (walk_nrm; exact rfl))))
    rw [hZ]
    refine WK.stop fun w₁ r hK => ⟨rfl, .bool true, #[], ?_, fun e he => (by simp at he), rfl, hK, fun b hb => ?_⟩
    · simp [G, stepG, unwind, doReturn, results, Frame.at, base, Try.func3, Try.f3, seen, GStep.after]
    · rw [r.kept b (hT'.hB b (by have := L.low; omega) (by have := L.low; omega)), hT'.hK b (by have := L.low; omega) (by have := L.low; omega)]
      exact L.low.2.2 b hb
  · have hf2 : (e != 0) = true := by simpa using hf
    obtain ⟨S0, hS0, q1, q2, q3, q4⟩ := eq_rows (c := c) (own := own) (srow_nil c.B 9 w) (srow_nil c.B 9 w) (fun g o n m e => (by cases e)) (fun g o n m e => (by cases e)) X.glob (by simp)
    obtain ⟨Y, hY⟩ : ∃ Y, Y = (fun bq aq kq cq => WK Try.prog true c.Ko (fun _ => False) (AtEnd Try.prog (LPost c N)) own (G (Frame.at bq aq kq) cq) w) := ⟨_, rfl⟩
    obtain ⟨Z, hZ⟩ : ∃ Z, Z = (fun bq aq kq cq => WK Try.prog true c.Ko (fun _ => False) (AtEnd Try.prog (LPost c N)) own (G { Frame.at bq aq kq with mode := .returning } cq) w) := ⟨_, rfl⟩
    have S : Sil Try.prog true (fun wq => Rly own w wq ∧ c.Ko wq) Y Z := by rw [hY, hZ]; exact sil_wk _ w
    suffices h : Y _ _ _ _ by rw [hY] at h; exact h
    repeat (first
      | refine sl_done S ?_
      | refine sl_seq S ?_
      | refine sl_skip S ?_
      | (co_apply sl_region S (by simp only [List.size_toArray, List.length_cons, List.length_nil, Nat.reduceAdd, Nat.zero_add, List.range, List.range.loop]; exact rfl))
      | refine sl_true S rfl ?_
      | refine sl_false S rfl ?_
      | refine sl_ret S ?_
      | refine sl_block S ?_
      | refine sl_loop S ?_
      | refine sl_inBlock S ?_
      | (refine sl_exit S (k' := _) rfl ?_)
      | refine sl_end S ?_
      | (co_apply sl_off S rfl rfl; (focus (walk_nrm; exact rfl)))
      | (co_apply sl_op S rfl rfl (by k_ne); (focus (intro W _ K hK; go_simp; (try w_num); exact hK)); (focus (intro W _; simp [go_sem, *])); (focus (walk_nrm; exact rfl))))
    rw [hY]
    clear hY hZ S Y Z
    refine wk_enter rfl rfl (by k_ne) (f := 6) (args := #[.slice none 0 0, .slice none 0 0]) (fun w₁ => by go_simp) (fun w₁ => by simp [go_sem, callFunc, Try.func6, Try.f6]) ?_
    refine ts_call (S := S0) rfl hS0 q3 rfl hT X.glob q1 q2 q4 fun own' w' hT' _ => ?_
    walk_nrm
    obtain ⟨Y, hY⟩ : ∃ Y, Y = (fun bq aq kq cq => WK Try.prog true c.Ko (fun _ => False) (AtEnd Try.prog (LPost c N)) own' (G (Frame.at bq aq kq) cq) w') := ⟨_, rfl⟩
    obtain ⟨Z, hZ⟩ : ∃ Z, Z = (fun bq aq kq cq => WK Try.prog true c.Ko (fun _ => False) (AtEnd Try.prog (LPost c N)) own' (G { Frame.at bq aq kq with mode := .returning } cq) w') := ⟨_, rfl⟩
    have S : Sil Try.prog true (fun wq => Rly own' w' wq ∧ c.Ko wq) Y Z := by rw [hY, hZ]; exact sil_wk _ w'
    suffices h : Y _ _ _ _ by rw [hY] at h; exact h
    repeat (first
      | refine sl_done S ?_
      | refine sl_seq S ?_
      | refine sl_skip S ?_
      | (co_apply sl_region S (by simp only [List.size_toArray, List.length_cons, List.length_nil, Nat.reduceAdd, Nat.zero_add, List.range, List.range.loop]; exact rfl))
      | refine sl_true S rfl ?_
      | refine sl_false S rfl ?_
      | refine sl_ret S ?_
      | refine sl_block S ?_
      | refine sl_loop S ?_
      | refine sl_inBlock S ?_
      | (refine sl_exit S (k' := _) rfl ?_)
      | refine sl_end S ?_
      | (co_apply sl_off S rfl rfl; (focus (walk_nrm; exact rfl)))
      | (co_apply sl_op S rfl rfl (by k_ne); (focus (intro W _ K hK; go_simp; (try w_num); exact hK)); (focus (intro W _; simp [go_sem, *])); (focus (walk_nrm; exact rfl))))
    rw [hZ]
    refine WK.stop fun w₁ r hK => ⟨rfl, .bool true, #[], ?_, fun e he => (by simp at he), rfl, hK, fun b hb => ?_⟩
    · simp [G, stepG, unwind, doReturn, results, Frame.at, base, Try.func3, Try.f3, seen, GStep.after]
    · rw [r.kept b (hT'.hB b (by have := L.low; omega) (by have := L.low; omega)), hT'.hK b (by have := L.low; omega) (by have := L.low; omega)]
      exact L.low.2.2 b hb
end
end Go.Proofs.Ytebgcemglicjiaa

/- The law CrewOpens behind the join: its loop, and from crew.Open's return to its end. Printed by gen_cvh.py. No condition of ours. -/
namespace Go.Proofs.Ytebgcemglicjiaa
open Go.Conc Go.ConcN Go.RowKit Go.Conc.Lib
structure SlotsL (a0 : Option Addr) (n c0 : Nat) (ra v : Value) (e f : Int) (i : Nat) (T : Array Value) : Prop where
  size : T.size = 58
  l : T[0]? = some (.slice a0 n c0)
  ra : T[5]? = some ra
  re : T[6]? = some (.int .i64 e)
  v : T[7]? = some v
  f : T[8]? = some (.int .i64 f)
  at_ : T[9]? = some (.int .i64 i)
section
variable {c : Cfg} {wt : World} {ts tx : Nat → ByteArray} {er : Nat → Int} {a0 : Option Addr} {N c0 : Nat}
/-- Behind an error the loop ends. -/
theorem law_exit (X : TCtx c wt tx er) (L : LCtx c wt ts tx er a0 N) {own : Nat → Prop} {w : World} {T : Array Value} {v : Value} {f : Int} {i : Nat} (hf : f ≠ 0) (hT : TS c wt own w) (hs : SlotsL a0 c.n c0 (.slice none 0 0) v f f i T) :
    WK Try.prog true c.Ko (fun _ => False) (AtEnd Try.prog (LPost c N)) own (G ((base 3).at ⟨T, []⟩ [.code LL, .inLoop LL, .inBlock 0, .code finL]) []) w := by
  obtain ⟨s0, t0, t5, t6, t7, t8, t9⟩ := hs
  have fin := fun own w T ra v e f => @law_fin c wt ts tx er a0 N X L own w T ra v e f
  obtain ⟨v0, v1, v2, v3, v4, v5, v6, v7, v8, v9, v10, v11, v12, v13, v14, v15, v16, v17, v18, v19, v20, v21, v22, v23, v24, v25, v26, v27, v28, v29, v30, v31, v32, v33, v34, v35, v36, v37, v38, v39, v40, v41, v42, v43, v44, v45, v46, v47, v48, v49, v50, v51, v52, v53, v54, v55, v56, v57, rfl⟩ := array58 T s0
  simp only [List.getElem?_toArray, List.getElem?_cons_zero, List.getElem?_cons_succ, Option.some.injEq] at t0 t5 t6 t7 t8 t9
  subst t0 t5 t6 t7 t8 t9
  have hf2 : (f == 0) = false := by simpa using hf
  simp only [LL, bodyL, Try.f3, Option.getD_some]
  generalize finL = FL at fin ⊢
  by_cases hlt : (i : Int) < (c.n : Int)
  · obtain ⟨Y, hY⟩ : ∃ Y, Y = (fun bq aq kq cq => WK Try.prog true c.Ko (fun _ => False) (AtEnd Try.prog (LPost c N)) own (G (Frame.at bq aq kq) cq) w) := ⟨_, rfl⟩
    obtain ⟨Z, hZ⟩ : ∃ Z, Z = (fun bq aq kq cq => WK Try.prog true c.Ko (fun _ => False) (AtEnd Try.prog (LPost c N)) own (G { Frame.at bq aq kq with mode := .returning } cq) w) := ⟨_, rfl⟩
    have S : Sil Try.prog true (fun wq => Rly own w wq ∧ c.Ko wq) Y Z := by rw [hY, hZ]; exact sil_wk _ w
    suffices h : Y _ _ _ _ by rw [hY] at h; exact h
    repeat (first
      | refine sl_done S ?_
      | refine sl_seq S ?_
      | refine sl_skip S ?_
      | (co_apply sl_region S (by simp only [List.size_toArray, List.length_cons, List.length_nil, Nat.reduceAdd, Nat.zero_add, List.range, List.range.loop]; exact rfl))
      | refine sl_true S rfl ?_
      | refine sl_false S rfl ?_
      | refine sl_ret S ?_
      | refine sl_block S ?_
      | refine sl_loop S ?_
      | refine sl_inBlock S ?_
      | (refine sl_exit S (k' := _) rfl ?_)
      | refine sl_end S ?_
      | (co_apply sl_off S rfl rfl; (focus (walk_nrm; exact rfl)))
      | (co_apply sl_op S rfl rfl (by k_ne); (focus (intro W _ K hK; go_simp; (try w_num); exact hK)); (focus (intro W _; simp [go_sem, *])); (focus (walk_nrm; exact rfl))))
    rw [hY]
    refine fin own w _ (.slice none 0 0) v7 f f hT ?_ ?_ ?_ ?_ ?_ (.inr ⟨hf, rfl, rfl⟩) <;> rfl
  · obtain ⟨Y, hY⟩ : ∃ Y, Y = (fun bq aq kq cq => WK Try.prog true c.Ko (fun _ => False) (AtEnd Try.prog (LPost c N)) own (G (Frame.at bq aq kq) cq) w) := ⟨_, rfl⟩
    obtain ⟨Z, hZ⟩ : ∃ Z, Z = (fun bq aq kq cq => WK Try.prog true c.Ko (fun _ => False) (AtEnd Try.prog (LPost c N)) own (G { Frame.at bq aq kq with mode := .returning } cq) w) := ⟨_, rfl⟩
    have S : Sil Try.prog true (fun wq => Rly own w wq ∧ c.Ko wq) Y Z := by rw [hY, hZ]; exact sil_wk _ w
    suffices h : Y _ _ _ _ by rw [hY] at h; exact h
    repeat (first
      | refine sl_done S ?_
      | refine sl_seq S ?_
      | refine sl_skip S ?_
      | (co_apply sl_region S (by simp only [List.size_toArray, List.length_cons, List.length_nil, Nat.reduceAdd, Nat.zero_add, List.range, List.range.loop]; exact rfl))
      | refine sl_true S rfl ?_
      | refine sl_false S rfl ?_
      | refine sl_ret S ?_
      | refine sl_block S ?_
      | refine sl_loop S ?_
      | refine sl_inBlock S ?_
      | (refine sl_exit S (k' := _) rfl ?_)
      | refine sl_end S ?_
      | (co_apply sl_off S rfl rfl; (focus (walk_nrm; exact rfl)))
      | (co_apply sl_op S rfl rfl (by k_ne); (focus (intro W _ K hK; go_simp; (try w_num); exact hK)); (focus (intro W _; simp [go_sem, *])); (focus (walk_nrm; exact rfl))))
    rw [hY]
    refine fin own w _ (.slice none 0 0) v7 f f hT ?_ ?_ ?_ ?_ ?_ (.inr ⟨hf, rfl, rfl⟩) <;> rfl
set_option maxRecDepth 100000 in
set_option maxHeartbeats 8000000 in
theorem law_loop (X : TCtx c wt tx er) (L : LCtx c wt ts tx er a0 N) {ra : Value} {e : Int}
    (hr : (e = 0 ∧ ∀ a, a < c.n → er a = 0) ∨ (∃ m, m < c.n ∧ (∀ a, a < m → er a = 0) ∧ er m ≠ 0 ∧ e = er m ∧ ra = .slice none 0 0)) :
    ∀ k i, i + k = c.n → (∀ a, a < i → er a = 0) → ∀ own w T v, TS c wt own w → (e = 0 → SRow c.B 9 w ra (txs tx c.n) ∧ RowIn own ra) → SRow c.B 9 w v (txs tx i) → RowIn own v → (∀ g o n m o' n' m', ra = .slice (some ⟨g, o, none⟩) n m → v ≠ .slice (some ⟨g, o', none⟩) n' m') → SlotsL a0 c.n c0 ra v e 0 i T →
      WK Try.prog true c.Ko (fun _ => False) (AtEnd Try.prog (LPost c N)) own (G ((base 3).at ⟨T, []⟩ [.code LL, .inLoop LL, .inBlock 0, .code finL]) []) w := by
  intro k
  induction k with
  | zero =>
    intro i hi he own w T v hT hra hv hin hd hs
    obtain ⟨s0, t0, t5, t6, t7, t8, t9⟩ := hs
    obtain rfl : i = c.n := by omega
    have he0 : e = 0 := by
      rcases hr with h | ⟨m, h1, _, h2, _⟩
      · exact h.1
      · exact absurd (he m h1) h2
    obtain ⟨hu, iu⟩ := hra he0
    have fin := fun own w T ra v e f => @law_fin c wt ts tx er a0 N X L own w T ra v e f
    obtain ⟨v0, v1, v2, v3, v4, v5, v6, v7, v8, v9, v10, v11, v12, v13, v14, v15, v16, v17, v18, v19, v20, v21, v22, v23, v24, v25, v26, v27, v28, v29, v30, v31, v32, v33, v34, v35, v36, v37, v38, v39, v40, v41, v42, v43, v44, v45, v46, v47, v48, v49, v50, v51, v52, v53, v54, v55, v56, v57, rfl⟩ := array58 T s0
    simp only [List.getElem?_toArray, List.getElem?_cons_zero, List.getElem?_cons_succ, Option.some.injEq] at t0 t5 t6 t7 t8 t9
    subst t0 t5 t6 t7 t8 t9
    simp only [LL, bodyL, Try.f3, Option.getD_some]
    generalize finL = FL at fin ⊢
    obtain ⟨Y, hY⟩ : ∃ Y, Y = (fun bq aq kq cq => WK Try.prog true c.Ko (fun _ => False) (AtEnd Try.prog (LPost c N)) own (G (Frame.at bq aq kq) cq) w) := ⟨_, rfl⟩
    obtain ⟨Z, hZ⟩ : ∃ Z, Z = (fun bq aq kq cq => WK Try.prog true c.Ko (fun _ => False) (AtEnd Try.prog (LPost c N)) own (G { Frame.at bq aq kq with mode := .returning } cq) w) := ⟨_, rfl⟩
    have S : Sil Try.prog true (fun wq => Rly own w wq ∧ c.Ko wq) Y Z := by rw [hY, hZ]; exact sil_wk _ w
    suffices h : Y _ _ _ _ by rw [hY] at h; exact h
    repeat (first
      | refine sl_done S ?_
      | refine sl_seq S ?_
      | refine sl_skip S ?_
      | (co_apply sl_region S (by simp only [List.size_toArray, List.length_cons, List.length_nil, Nat.reduceAdd, Nat.zero_add, List.range, List.range.loop]; exact rfl))
      | refine sl_true S rfl ?_
      | refine sl_false S rfl ?_
      | refine sl_ret S ?_
      | refine sl_block S ?_
      | refine sl_loop S ?_
      | refine sl_inBlock S ?_
      | (refine sl_exit S (k' := _) rfl ?_)
      | refine sl_end S ?_
      | (co_apply sl_off S rfl rfl; (focus (walk_nrm; exact rfl)))
      | (co_apply sl_op S rfl rfl (by k_ne); (focus (intro W _ K hK; go_simp; (try w_num); exact hK)); (focus (intro W _; simp [go_sem, *])); (focus (walk_nrm; exact rfl))))
    rw [hY]
    refine fin own w _ v5 v7 e 0 hT ?_ ?_ ?_ ?_ ?_ (.inl ⟨rfl, he0, hu, iu, hv, hin⟩) <;> rfl
  | succ k ih =>
    intro i hi he own w T v hT hra hv hin hd hs
    obtain ⟨s0, t0, t5, t6, t7, t8, t9⟩ := hs
    obtain ⟨b, o, ea, p1, p2, p3⟩ := L.row i (by omega)
    subst ea
    have hex := fun own w T v f i => @law_exit c wt ts tx er (some ⟨b, o, none⟩) N c0 X L own w T v f i
    obtain ⟨v0, v1, v2, v3, v4, v5, v6, v7, v8, v9, v10, v11, v12, v13, v14, v15, v16, v17, v18, v19, v20, v21, v22, v23, v24, v25, v26, v27, v28, v29, v30, v31, v32, v33, v34, v35, v36, v37, v38, v39, v40, v41, v42, v43, v44, v45, v46, v47, v48, v49, v50, v51, v52, v53, v54, v55, v56, v57, rfl⟩ := array58 T s0
    simp only [List.getElem?_toArray, List.getElem?_cons_zero, List.getElem?_cons_succ, Option.some.injEq] at t0 t5 t6 t7 t8 t9
    subst t0 t5 t6 t7 t8 t9
    have hlt : (i : Int) < (c.n : Int) := by omega
    have h0 : (0 : Int) ≤ (i : Int) := by omega
    simp only [LL, bodyL, Try.f3, Option.getD_some] at ih hex ⊢
    generalize finL = FL at ih hex ⊢
    obtain ⟨Y, hY⟩ : ∃ Y, Y = (fun bq aq kq cq => WK Try.prog true c.Ko (fun _ => False) (AtEnd Try.prog (LPost c N)) own (G (Frame.at bq aq kq) cq) w) := ⟨_, rfl⟩
    obtain ⟨Z, hZ⟩ : ∃ Z, Z = (fun bq aq kq cq => WK Try.prog true c.Ko (fun _ => False) (AtEnd Try.prog (LPost c N)) own (G { Frame.at bq aq kq with mode := .returning } cq) w) := ⟨_, rfl⟩
    have S : Sil Try.prog true (fun wq => Rly own w wq ∧ c.Ko wq) Y Z := by rw [hY, hZ]; exact sil_wk _ w
    suffices h : Y _ _ _ _ by rw [hY] at h; exact h
    repeat (first
      | refine sl_done S ?_
      | refine sl_seq S ?_
      | refine sl_skip S ?_
      | (co_apply sl_region S (by simp only [List.size_toArray, List.length_cons, List.length_nil, Nat.reduceAdd, Nat.zero_add, List.range, List.range.loop]; exact rfl))
      | refine sl_true S rfl ?_
      | refine sl_false S rfl ?_
      | refine sl_ret S ?_
      | refine sl_block S ?_
      | refine sl_loop S ?_
      | refine sl_inBlock S ?_
      | (refine sl_exit S (k' := _) rfl ?_)
      | refine sl_end S ?_
      | (co_apply sl_off S rfl rfl; (focus (walk_nrm; exact rfl)))
      | (co_apply sl_op S rfl rfl (by k_ne); (focus (intro W _ K hK; go_simp; (try w_num); exact hK)); (focus (intro W _; simp [go_sem, *])); (focus (walk_nrm; exact rfl))))
    rw [hY]
    refine wk_op rfl rfl (by k_ne) (v := .string (ts i)) (fun w₁ r hK Q hQ => ?_) (fun w₁ r hK e he => ?_) (by walk_nrm; exact rfl) ?_
    · have hc : w₁.cell? ⟨b, o + i, none⟩ = some (.string (ts i)) := ((hT.rely r).cell (a := ⟨b, o + i, none⟩) p1 p2).trans p3
      go_simp
      exact hQ
    · have hc : w₁.cell? ⟨b, o + i, none⟩ = some (.string (ts i)) := ((hT.rely r).cell (a := ⟨b, o + i, none⟩) p1 p2).trans p3
      simp [go_sem, hc] at he
      subst he
      exact .inl (.inl ⟨_, _, rfl, hT.hB b p1 p2⟩)
    suffices h : Y _ _ _ _ by rw [hY] at h; exact h
    repeat (first
      | refine sl_done S ?_
      | refine sl_seq S ?_
      | refine sl_skip S ?_
      | (co_apply sl_region S (by simp only [List.size_toArray, List.length_cons, List.length_nil, Nat.reduceAdd, Nat.zero_add, List.range, List.range.loop]; exact rfl))
      | refine sl_true S rfl ?_
      | refine sl_false S rfl ?_
      | refine sl_ret S ?_
      | refine sl_block S ?_
      | refine sl_loop S ?_
      | refine sl_inBlock S ?_
      | (refine sl_exit S (k' := _) rfl ?_)
      | refine sl_end S ?_
      | (co_apply sl_off S rfl rfl; (focus (walk_nrm; exact rfl)))
      | (co_apply sl_op S rfl rfl (by k_ne); (focus (intro W _ K hK; go_simp; (try w_num); exact hK)); (focus (intro W _; simp [go_sem, *])); (focus (walk_nrm; exact rfl))))
    rw [hY]
    clear hY hZ S Y Z
    refine wk_enter rfl rfl (by k_ne) (f := 5) (args := #[.string (ts i)]) (fun w₁ => by go_simp) (fun w₁ => by simp [go_sem, callFunc, Try.func5, Try.f5]) ?_
    refine ts_call (S := []) rfl (fun b hb => by cases hb) (AR.flat (by simp [flatV])) (v0 := .tuple #[.string (tx i), .int .i64 (er i)]) (by simp [plainV, flatV]) hT X.glob (fun b hb => by cases hb) (fun b hb => by cases hb) (fun T => L.call i (by omega) _) fun own2 w2 hT2 hsub => ?_
    have hra2 : e = 0 → SRow c.B 9 w2 v5 (txs tx c.n) ∧ RowIn own2 v5 := fun h => ⟨(hra h).1.kept fun g o n m q => (hsub g ((hra h).2 g o n m q) (by simp)).2, (hra h).2.mono fun b hb => (hsub b hb (by simp)).1⟩
    have hv2 : SRow c.B 9 w2 v7 (txs tx i) := hv.kept fun g o n m q => (hsub g (hin g o n m q) (by simp)).2
    have hin2 : RowIn own2 v7 := hin.mono fun b hb => (hsub b hb (by simp)).1
    clear hsub hra hv hin hT
    walk_nrm
    obtain ⟨Y, hY⟩ : ∃ Y, Y = (fun bq aq kq cq => WK Try.prog true c.Ko (fun _ => False) (AtEnd Try.prog (LPost c N)) own2 (G (Frame.at bq aq kq) cq) w2) := ⟨_, rfl⟩
    obtain ⟨Z, hZ⟩ : ∃ Z, Z = (fun bq aq kq cq => WK Try.prog true c.Ko (fun _ => False) (AtEnd Try.prog (LPost c N)) own2 (G { Frame.at bq aq kq with mode := .returning } cq) w2) := ⟨_, rfl⟩
    have S : Sil Try.prog true (fun wq => Rly own2 w2 wq ∧ c.Ko wq) Y Z := by rw [hY, hZ]; exact sil_wk _ w2
    suffices h : Y _ _ _ _ by rw [hY] at h; exact h
    repeat (first
      | refine sl_done S ?_
      | refine sl_seq S ?_
      | refine sl_skip S ?_
      | (co_apply sl_region S (by simp only [List.size_toArray, List.length_cons, List.length_nil, Nat.reduceAdd, Nat.zero_add, List.range, List.range.loop]; exact rfl))
      | refine sl_true S rfl ?_
      | refine sl_false S rfl ?_
      | refine sl_ret S ?_
      | refine sl_block S ?_
      | refine sl_loop S ?_
      | refine sl_inBlock S ?_
      | (refine sl_exit S (k' := _) rfl ?_)
      | refine sl_end S ?_
      | (co_apply sl_off S rfl rfl; (focus (walk_nrm; exact rfl)))
      | (co_apply sl_op S rfl rfl (by k_ne); (focus (intro W _ K hK; go_simp; (try w_num); exact hK)); (focus (intro W _; simp [go_sem, *])); (focus (walk_nrm; exact rfl))))
    rw [hY]
    clear hY hZ S Y Z
    refine wk_mem rfl rfl (by k_ne) fun w₆ r hK => ⟨.slice (some ⟨w₆.heap.size, 0, none⟩) 1 1, w₆.alloc (.cells #[.string (tx i)] 9), _, .inl (by go_simp), actK_alloc (fun e he => by have hm := mem_listed he; simp [go_sem] at hm), ?_⟩
    have hb3 : (w₆.alloc (.cells #[.string (tx i)] 9)).heap[w₆.heap.size]? = some (.cells #[.string (tx i)] 9) := (alloc_at _ _).1
    have hMo : ¬ own2 w₆.heap.size := fun h => absurd ((hT2.rely r).hS _ h) (Nat.lt_irrefl _)
    have hM : c.B ≤ w₆.heap.size := (hT2.rely r).hN
    have hv3 := (hv2.rely hin2 r).alloc hin2 (hT2.rely r).hS (.cells #[.string (tx i)] 9)
    have hra3 := fun h => ((hra2 h).1.rely (hra2 h).2 r).alloc (hra2 h).2 (hT2.rely r).hS (.cells #[.string (tx i)] 9)
    have hT3 := (hT2.rely r).alloc (.cells #[.string (tx i)] 9)
    clear hK r hv2 hT2
    generalize w₆.alloc (.cells #[.string (tx i)] 9) = w₇ at hb3 hv3 hT3 hra3 ⊢
    generalize w₆.heap.size = M at hb3 hMo hM hT3 ⊢
    walk_nrm
    refine wk_append rfl rfl (by k_ne) rfl rfl rfl hT3 hv3 (hin2.mono fun b hb => .inl hb) hb3 (.inr rfl) hM X.glob (by rw [txs_len]; have := X.n16; omega) (fun g o n m e x => hMo (by have := hin2 g o n m e; rw [x] at this; exact this)) fun own4 w₈ v' hT4 hv4 hin4 hsub hoth hnew => ?_
    rw [← txs_succ] at hv4
    have iu : e = 0 → RowIn own4 v5 := fun h => (hra2 h).2.mono fun b hb => hsub b (.inl hb)
    have hra4 : e = 0 → SRow c.B 9 w₈ v5 (txs tx c.n) ∧ RowIn own4 v5 := fun h => ⟨(hra3 h).kept fun g o n m q => by
      rcases hoth g (.inl ((hra2 h).2 g o n m q)) (fun o' n' m' x => hd g o n m o' n' m' q x) with h1 | h1
      · exact h1
      · exact absurd ((hra2 h).2 g o n m q) (h1 ▸ hMo), iu h⟩
    have hd4 : e = 0 → ∀ g o n m o' n' m', v5 = .slice (some ⟨g, o, none⟩) n m → v' ≠ .slice (some ⟨g, o', none⟩) n' m' := fun h g o n m o' n' m' q x => by
      rcases hnew g o' n' m' x with ⟨o3, n3, m3, h1⟩ | h1
      · exact hd g o n m o3 n3 m3 q h1
      · exact h1 (.inl ((hra2 h).2 g o n m q))
    walk_nrm
    obtain ⟨Y, hY⟩ : ∃ Y, Y = (fun bq aq kq cq => WK Try.prog true c.Ko (fun _ => False) (AtEnd Try.prog (LPost c N)) own4 (G (Frame.at bq aq kq) cq) w₈) := ⟨_, rfl⟩
    obtain ⟨Z, hZ⟩ : ∃ Z, Z = (fun bq aq kq cq => WK Try.prog true c.Ko (fun _ => False) (AtEnd Try.prog (LPost c N)) own4 (G { Frame.at bq aq kq with mode := .returning } cq) w₈) := ⟨_, rfl⟩
    have S : Sil Try.prog true (fun wq => Rly own4 w₈ wq ∧ c.Ko wq) Y Z := by rw [hY, hZ]; exact sil_wk _ w₈
    suffices h : Y _ _ _ _ by rw [hY] at h; exact h
    repeat (first
      | refine sl_done S ?_
      | refine sl_seq S ?_
      | refine sl_skip S ?_
      | (co_apply sl_region S (by simp only [List.size_toArray, List.length_cons, List.length_nil, Nat.reduceAdd, Nat.zero_add, List.range, List.range.loop]; exact rfl))
      | refine sl_true S rfl ?_
      | refine sl_false S rfl ?_
      | refine sl_ret S ?_
      | refine sl_block S ?_
      | refine sl_loop S ?_
      | refine sl_inBlock S ?_
      | (refine sl_exit S (k' := _) rfl ?_)
      | refine sl_end S ?_
      | (co_apply sl_off S rfl rfl; (focus (walk_nrm; exact rfl)))
      | (co_apply sl_op S rfl rfl (by k_ne); (focus (intro W _ K hK; go_simp; (try w_num); exact hK)); (focus (intro W _; simp [go_sem, *])); (focus (walk_nrm; exact rfl))))
    refine sl_inLoop S ?_
    rw [hY]
    have hnx : (Value.int .i64 (IntKind.i64.wrap ((i : Int) + 1))) = .int .i64 ((i + 1 : Nat) : Int) := by
      rw [show IntKind.i64.wrap ((i : Int) + 1) = ((i + 1 : Nat) : Int) by rw [IntKind.wrap_i64]; have := X.n16; omega]
    by_cases hz : er i = 0
    · have he' : ∀ a, a < i + 1 → er a = 0 := fun a ha => by
        by_cases e1 : a = i
        · rw [e1]; exact hz
        · exact he a (by omega)
      refine ih (i + 1) (by omega) he' own4 w₈ _ v' hT4 hra4 hv4 hin4 ?_ ⟨rfl, rfl, rfl, rfl, rfl, ?_, ?_⟩
      · rcases hr with ⟨h, _⟩ | ⟨m, _, _, _, _, h⟩
        · exact hd4 h
        · intro g o n m o' n' m' q; rw [h] at q; cases q
      · show some (Value.int .i64 (er i)) = _
        rw [hz]
      · show some (Value.int .i64 (IntKind.i64.wrap ((i : Int) + 1))) = _
        rw [hnx]
    · obtain ⟨rfl, rfl⟩ : e = er i ∧ v5 = .slice none 0 0 := by
        rcases hr with ⟨_, h⟩ | ⟨m, h1, h2, h3, h4, h5⟩
        · exact absurd (h i (by omega)) hz
        · have : m = i := by
            rcases Nat.lt_trichotomy m i with h | h | h
            · exact absurd (he m h) h3
            · exact h
            · exact absurd (h2 i h) hz
          subst this
          exact ⟨h4, h5⟩
      refine hex own4 w₈ _ v' (er i) (i + 1) hz hT4 ⟨rfl, rfl, rfl, rfl, rfl, rfl, ?_⟩
      show some (Value.int .i64 (IntKind.i64.wrap ((i : Int) + 1))) = _
      rw [hnx]
end
end Go.Proofs.Ytebgcemglicjiaa

namespace Go.Proofs.Ytebgcemglicjiaa
open Go.Conc Go.ConcN Go.RowKit Go.Conc.Lib
noncomputable def r2L : Code := match finL1 with | .seq c _ => c | _ => .skip
noncomputable def r3L : Code := match finL1 with | .seq _ (.seq c _) => c | _ => .skip
noncomputable def ifL : Code := match finL1 with | .seq _ (.seq _ (.seq c _)) => c | _ => .skip
noncomputable def r8L : Code := match finL1 with | .seq _ (.seq _ (.seq _ (.seq (.seq c _) _))) => c | _ => .skip
theorem finL1_eq : finL1 = .seq r2L (.seq r3L (.seq ifL (.seq (.seq r8L (.block 0 (.loop LL))) finL))) := by kernel_rfl
section
variable {c : Cfg} {wt : World} {ts tx : Nat → ByteArray} {er : Nat → Int} {a0 : Option Addr} {N c0 h : Nat}
set_option maxRecDepth 100000 in
set_option maxHeartbeats 8000000 in
theorem law_start (X : TCtx c wt tx er) (L : LCtx c wt ts tx er a0 N) (h1 : 1 ≤ h) (h8 : h ≤ 8) {T : Array Value} (s0 : T.size = 58) (t0 : T[0]? = some (.slice a0 c.n c0)) (t1 : T[1]? = some (.int .i64 h)) :
    ∀ own w r, TS c wt own w → OAns c tx er own w r → WK Try.prog true c.Ko (fun _ => False) (AtEnd Try.prog (LPost c N)) own (G ((base 3).at (Act.put ⟨T, []⟩ ((opsL1[2]?).bind (·.dst)) r) [.inRegion opsL1 [3, 4, 5, 6, 7], .code finL1]) []) w := by
  intro own w r hT hr
  obtain ⟨ra, e, rfl, hr1, hr2⟩ : ∃ ra e, r = .tuple #[ra, .int .i64 e] ∧ ((e = 0 ∧ ∀ a, a < c.n → er a = 0) ∨ (∃ m, m < c.n ∧ (∀ a, a < m → er a = 0) ∧ er m ≠ 0 ∧ e = er m ∧ ra = .slice none 0 0)) ∧ (e = 0 → SRow c.B 9 w ra (txs tx c.n) ∧ RowIn own ra) := by
    rcases hr with ⟨m, q1, q2, q3, rfl⟩ | ⟨q1, v, rfl, q2, q3⟩
    · exact ⟨_, _, rfl, .inr ⟨m, q1, q2, q3, rfl, rfl⟩, fun h => absurd h q3⟩
    · exact ⟨_, _, rfl, .inl ⟨rfl, q1⟩, fun _ => ⟨q2, q3⟩⟩
  have lp := fun T => @law_loop c wt ts tx er a0 N c0 X L ra e hr1 c.n 0 (by omega) (fun a ha => absurd ha (Nat.not_lt_zero a)) own w T (.slice none 0 0) hT hr2 (srow_nil _ _ _) (fun g o n m e => by cases e) (fun g o n m o' n' m' _ e => by cases e)
  obtain ⟨v0, v1, v2, v3, v4, v5, v6, v7, v8, v9, v10, v11, v12, v13, v14, v15, v16, v17, v18, v19, v20, v21, v22, v23, v24, v25, v26, v27, v28, v29, v30, v31, v32, v33, v34, v35, v36, v37, v38, v39, v40, v41, v42, v43, v44, v45, v46, v47, v48, v49, v50, v51, v52, v53, v54, v55, v56, v57, rfl⟩ := array58 T s0
  simp only [List.getElem?_toArray, List.getElem?_cons_zero, List.getElem?_cons_succ, Option.some.injEq] at t0 t1
  subst t0 t1
  have d1 : ¬ ((h : Int) < 1) := by omega
  have d8 : ¬ ((8 : Int) < (h : Int)) := by omega
  have dn : ¬ ((16 : Int) < (c.n : Int)) := by have := X.n16; omega
  rw [finL1_eq]
  simp only [opsL1, r2L, r3L, ifL, r8L, finL1, bodyL, Try.f3, Option.getD_some]
  generalize finL = FL at lp ⊢
  generalize LL = QL at lp ⊢
  walk_nrm
  obtain ⟨Y, hY⟩ : ∃ Y, Y = (fun bq aq kq cq => WK Try.prog true c.Ko (fun _ => False) (AtEnd Try.prog (LPost c N)) own (G (Frame.at bq aq kq) cq) w) := ⟨_, rfl⟩
  obtain ⟨Z, hZ⟩ : ∃ Z, Z = (fun bq aq kq cq => WK Try.prog true c.Ko (fun _ => False) (AtEnd Try.prog (LPost c N)) own (G { Frame.at bq aq kq with mode := .returning } cq) w) := ⟨_, rfl⟩
  have S : Sil Try.prog true (fun wq => Rly own w wq ∧ c.Ko wq) Y Z := by rw [hY, hZ]; exact sil_wk _ w
  suffices h : Y _ _ _ _ by rw [hY] at h; exact h
  repeat (first
    | refine sl_done S ?_
    | refine sl_seq S ?_
    | refine sl_skip S ?_
    | (co_apply sl_region S (by simp only [List.size_toArray, List.length_cons, List.length_nil, Nat.reduceAdd, Nat.zero_add, List.range, List.range.loop]; exact rfl))
    | refine sl_true S rfl ?_
    | refine sl_false S rfl ?_
    | refine sl_ret S ?_
    | refine sl_block S ?_
    | refine sl_loop S ?_
    | refine sl_inBlock S ?_
    | (refine sl_exit S (k' := _) rfl ?_)
    | refine sl_end S ?_
    | (co_apply sl_off S rfl rfl; (focus (walk_nrm; exact rfl)))
    | (co_apply sl_op S rfl rfl (by k_ne); (focus (intro W _ K hK; go_simp; (try w_num); exact hK)); (focus (intro W _; simp [go_sem, *])); (focus (walk_nrm; exact rfl))))
  rw [hY]
  exact lp _ ⟨rfl, rfl, rfl, rfl, rfl, rfl, rfl⟩
theorem open_start (X : TCtx c wt tx er) {bL : Frame} {aL : Act} {opsL : Array Oper} {iL : Nat} {restL : List Nat} {kL : List Item} {Post : Value → World → Prop}
    (hk : ∀ own w r, TS c wt own w → OAns c tx er own w r → WK Try.prog true c.Ko (fun _ => False) (AtEnd Try.prog Post) own (G (bL.at (aL.put ((opsL[iL]?).bind (·.dst)) r) (.inRegion opsL restL :: kL)) []) w)
    {own : Nat → Prop} {w : World} {T : Array Value} (hT : TS c wt own w) (s0 : T.size = 36) (t7 : T[7]? = some (.slice none 0 0)) :
    WK Try.prog true c.Ko (fun _ => False) (AtEnd Try.prog Post) own (G ((base 4).at (Act.put ⟨T, []⟩ ((opsO[2]?).bind (·.dst)) (.slice (some ⟨c.Ob, 0, none⟩) c.n c.n)) [.inRegion opsO [3, 4], .code (.block 0 (.loop LO)), .code finO]) [bL.at aL (.inRegion opsL (iL :: restL) :: kL)]) w := by
  have lp := fun T => @open_loop c wt tx er Post X bL aL opsL iL restL kL hk c.n 0 (by omega) (fun a ha => absurd ha (Nat.not_lt_zero a)) own w T (.slice none 0 0) hT (srow_nil _ _ _) (fun g o n m e => by cases e)
  obtain ⟨v0, v1, v2, v3, v4, v5, v6, v7, v8, v9, v10, v11, v12, v13, v14, v15, v16, v17, v18, v19, v20, v21, v22, v23, v24, v25, v26, v27, v28, v29, v30, v31, v32, v33, v34, v35, rfl⟩ := array36 T s0
  simp only [List.getElem?_toArray, List.getElem?_cons_zero, List.getElem?_cons_succ, Option.some.injEq] at t7
  subst t7
  simp only [opsO, bodyO, Try.f4, Option.getD_some]
  generalize finO = FL at lp ⊢
  generalize LO = QL at lp ⊢
  walk_nrm
  obtain ⟨Y, hY⟩ : ∃ Y, Y = (fun bq aq kq cq => WK Try.prog true c.Ko (fun _ => False) (AtEnd Try.prog Post) own (G (Frame.at bq aq kq) cq) w) := ⟨_, rfl⟩
  obtain ⟨Z, hZ⟩ : ∃ Z, Z = (fun bq aq kq cq => WK Try.prog true c.Ko (fun _ => False) (AtEnd Try.prog Post) own (G { Frame.at bq aq kq with mode := .returning } cq) w) := ⟨_, rfl⟩
  have S : Sil Try.prog true (fun wq => Rly own w wq ∧ c.Ko wq) Y Z := by rw [hY, hZ]; exact sil_wk _ w
  suffices h : Y _ _ _ _ by rw [hY] at h; exact h
  repeat (first
    | refine sl_done S ?_
    | refine sl_seq S ?_
    | refine sl_skip S ?_
    | (co_apply sl_region S (by simp only [List.size_toArray, List.length_cons, List.length_nil, Nat.reduceAdd, Nat.zero_add, List.range, List.range.loop]; exact rfl))
    | refine sl_true S rfl ?_
    | refine sl_false S rfl ?_
    | refine sl_ret S ?_
    | refine sl_block S ?_
    | refine sl_loop S ?_
    | refine sl_inBlock S ?_
    | (refine sl_exit S (k' := _) rfl ?_)
    | refine sl_end S ?_
    | (co_apply sl_off S rfl rfl; (focus (walk_nrm; exact rfl)))
    | (co_apply sl_op S rfl rfl (by k_ne); (focus (intro W _ K hK; go_simp; (try w_num); exact hK)); (focus (intro W _; simp [go_sem, *])); (focus (walk_nrm; exact rfl))))
  rw [hY]
  exact lp _ ⟨rfl, rfl, rfl, rfl, rfl⟩
/-- The frames that wait for crew.all. -/
noncomputable def waiting (TO TL : Array Value) : List Frame :=
  [(base 4).at ⟨TO, []⟩ [.inRegion opsO [2, 3, 4], .code (.block 0 (.loop LO)), .code finO], (base 3).at ⟨TL, []⟩ [.inRegion opsL1 [2, 3, 4, 5, 6, 7], .code finL1]]
/-- What is known ahead of the hands. -/
structure Known (c : Cfg) (ts tx : Nat → ByteArray) (er : Nat → Int) (a0 : Option Addr) (N c0 h : Nat) (TO TL : Array Value) : Prop where
  ansA : ∀ a, a < c.n → c.ansA a = .string (tx a)
  ansB : ∀ a, a < c.n → c.ansB a = .int .i64 (er a)
  row : ∀ i, i < c.n → ∃ b o, a0 = some ⟨b, o, none⟩ ∧ c.Rd b ∧ c.w0.cell? ⟨b, o + i, none⟩ = some (.string (ts i))
  call : ∀ i, i < c.n → ∀ w, Calls Try.prog 5 #[.string (ts i)] w fun e _ => e = .returned (.tuple #[.string (tx i), .int .i64 (er i)])
  low : N ≤ c.B ∧ N ≤ c.Wg ∧ N ≤ c.Ob ∧ N ≤ c.Ch
  h1 : 1 ≤ h
  h8 : h ≤ 8
  so : TO.size = 36
  o7 : TO[7]? = some (.slice none 0 0)
  sl : TL.size = 58
  l0 : TL[0]? = some (.slice a0 c.n c0)
  l1 : TL[1]? = some (.int .i64 h)
set_option maxRecDepth 100000 in
theorem all_tail {Bj Bd Bo : Nat} {TO TL : Array Value} (H0 : Laid c Bj Bd Bo ts) (M : Known c ts tx er a0 N c0 h TO TL) {T : Array Value} {k : Nat} (hs : Slots c Bj Bd Bo h k T) {w : World} (hB : c.B ≤ w.heap.size) :
    TailP Try.prog c (LPost c N) (G ((base 8).at (Act.put ⟨T, []⟩ ((sops[0]?).bind (·.dst)) (.tuple #[])) [.inRegion sops [], .code srest]) (waiting TO TL)) w := by
  refine ⟨rfl, fun hF => ⟨fun b => b < w.heap.size ∧ b ≠ c.Wg, fun b hb => hb, ?_⟩⟩
  have rdN : ∀ b, b < N → c.Rd b := fun b hb => by
    have := M.low
    exact ⟨by omega, by omega, by omega, by omega⟩
  have X : TCtx c w tx er := ⟨H0.ok, hF, H0.oty, M.ansA, M.ansB, H0.glob, H0.n16⟩
  have L : LCtx c w ts tx er a0 N := ⟨fun i hi => by
    obtain ⟨b, o, q1, q2, q3⟩ := M.row i hi
    refine ⟨b, o, q1, q2.1, q2.2.1, ?_⟩
    rw [← q3]
    unfold World.cell?
    rw [hF.1.1 b q2], M.call, M.low.1, M.low.2.1, fun b hb => hF.1.1 b (rdN b hb)⟩
  have hT : TS c w (fun b => b < w.heap.size ∧ b ≠ c.Wg) w := ⟨fun b h1 h2 => ⟨by omega, h2⟩, fun b hb => hb.1, fun _ _ _ => rfl, hB⟩
  have kk := @open_start c w tx er X _ _ opsL1 2 [3, 4, 5, 6, 7] [.code finL1] (LPost c N) (law_start X L M.h1 M.h8 M.sl M.l0 M.l1) _ w TO hT M.so M.o7
  have hc0 : w.cell? ⟨Bo, 0, none⟩ = some (.slice (some ⟨c.Ob, 0, none⟩) c.n c.n) := (hF.1.cell H0.ro).trans H0.co
  have ho : Bo < w.heap.size ∧ Bo ≠ c.Wg := ⟨by have := H0.ro.1; omega, H0.ro.2.1⟩
  obtain ⟨s0, t5, t7, t8, t11, t31, t32⟩ := hs
  obtain ⟨v0, v1, v2, v3, v4, v5, v6, v7, v8, v9, v10, v11, v12, v13, v14, v15, v16, v17, v18, v19, v20, v21, v22, v23, v24, v25, v26, v27, v28, v29, v30, v31, v32, v33, v34, v35, v36, v37, v38, rfl⟩ := array39 T s0
  simp only [List.getElem?_toArray, List.getElem?_cons_zero, List.getElem?_cons_succ, Option.some.injEq] at t5 t7 t8 t11 t31 t32
  subst t5 t7 t8 t11 t31 t32
  simp only [sops, srest, sfin, body8, Try.f8, Option.getD_some]
  obtain ⟨own, hown⟩ : ∃ own : Nat → Prop, own = fun b => b < w.heap.size ∧ b ≠ c.Wg := ⟨_, rfl⟩
  rw [← hown] at hT kk ⊢
  have hBo : own Bo := by rw [hown]; exact ho
  clear hown
  walk_nrm
  obtain ⟨Y, hY⟩ : ∃ Y, Y = (fun bq aq kq cq => WK Try.prog true c.Ko (fun _ => False) (AtEnd Try.prog (LPost c N)) own (G (Frame.at bq aq kq) cq) w) := ⟨_, rfl⟩
  obtain ⟨Z, hZ⟩ : ∃ Z, Z = (fun bq aq kq cq => WK Try.prog true c.Ko (fun _ => False) (AtEnd Try.prog (LPost c N)) own (G { Frame.at bq aq kq with mode := .returning } cq) w) := ⟨_, rfl⟩
  have S : Sil Try.prog true (fun wq => Rly own w wq ∧ c.Ko wq) Y Z := by rw [hY, hZ]; exact sil_wk _ w
  suffices h : Y _ _ _ _ by rw [hY] at h; exact h
  repeat (first
    | refine sl_done S ?_
    | refine sl_seq S ?_
    | refine sl_skip S ?_
    | (co_apply sl_region S (by simp only [List.size_toArray, List.length_cons, List.length_nil, Nat.reduceAdd, Nat.zero_add, List.range, List.range.loop]; exact rfl))
    | refine sl_true S rfl ?_
    | refine sl_false S rfl ?_
    | refine sl_ret S ?_
    | refine sl_block S ?_
    | refine sl_loop S ?_
    | refine sl_inBlock S ?_
    | (refine sl_exit S (k' := _) rfl ?_)
    | refine sl_end S ?_
    | (co_apply sl_off S rfl rfl; (focus (walk_nrm; exact rfl)))
    | (co_apply sl_op S rfl rfl (by k_ne); (focus (intro W _ K hK; go_simp; (try w_num); exact hK)); (focus (intro W _; simp [go_sem, *])); (focus (walk_nrm; exact rfl))))
  rw [hY]
  refine wk_op rfl rfl (by k_ne) (v := .slice (some ⟨c.Ob, 0, none⟩) c.n c.n) (fun w₁ r hK Q hQ => ?_) (fun w₁ r hK e he => ?_) (by walk_nrm; exact rfl) ?_
  · have hc : w₁.cell? ⟨Bo, 0, none⟩ = some (.slice (some ⟨c.Ob, 0, none⟩) c.n c.n) := (Go.ConcN.cell_of_block (r.kept Bo hBo) 0).trans hc0
    go_simp
    exact hQ
  · have hc : w₁.cell? ⟨Bo, 0, none⟩ = some (.slice (some ⟨c.Ob, 0, none⟩) c.n c.n) := (Go.ConcN.cell_of_block (r.kept Bo hBo) 0).trans hc0
    simp [go_sem, hc] at he
    subst he
    exact .inl (.inl ⟨_, _, rfl, hBo⟩)
  suffices h : Y _ _ _ _ by rw [hY] at h; exact h
  repeat (first
    | refine sl_done S ?_
    | refine sl_seq S ?_
    | refine sl_skip S ?_
    | (co_apply sl_region S (by simp only [List.size_toArray, List.length_cons, List.length_nil, Nat.reduceAdd, Nat.zero_add, List.range, List.range.loop]; exact rfl))
    | refine sl_true S rfl ?_
    | refine sl_false S rfl ?_
    | refine sl_ret S ?_
    | refine sl_block S ?_
    | refine sl_loop S ?_
    | refine sl_inBlock S ?_
    | (refine sl_exit S (k' := _) rfl ?_)
    | refine sl_end S ?_
    | (co_apply sl_off S rfl rfl; (focus (walk_nrm; exact rfl)))
    | (co_apply sl_op S rfl rfl (by k_ne); (focus (intro W _ K hK; go_simp; (try w_num); exact hK)); (focus (intro W _; simp [go_sem, *])); (focus (walk_nrm; exact rfl))))
  rw [hZ]
  clear hY hZ S Y Z
  unfold waiting
  refine WK.silent rfl (fun w₁ r _ => (stepG_leave (b := base 8) (c := (base 4).at ⟨TO, []⟩ [.inRegion opsO [2, 3, 4], .code (.block 0 (.loop LO)), .code finO]) rfl rfl Try.func8 (results_tmp rfl _ _ _) (events_results_tmp rfl _ _)).trans (by rw [Frame.finish_at])) ?_
  exact kk
end
end Go.Proofs.Ytebgcemglicjiaa
