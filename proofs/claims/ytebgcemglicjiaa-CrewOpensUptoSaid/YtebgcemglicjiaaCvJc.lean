/- The starter alone in crew.all: to the loop that starts the hands. Printed by gen_cvl.py. No condition of ours. -/
import Derived.Test.YtebgcemglicjiaaCvJb
import Derived.DuoClaim
/- The starter alone: its steps, its sends, what it touches. No condition of ours. -/
namespace Go.Proofs.Ytebgcemglicjiaa
open Go.Conc Go.ConcN Go.RowKit
open Go.ConcR (KK WgAt stA smA rd wr mk DC0 g_of_ofEvents)
/-- What a step may touch ahead of the hands: neither the group's block nor the answers' row. -/
def TouchOk (wg ob sz : Nat) (x : Touch) : Prop := (∃ ad : Addr, x.loc = .cell ad ∧ ad.block < sz ∧ ad.block ≠ ob ∧ ad.block ≠ wg) ∨ ∃ b, x.loc = .obj b ∧ b < sz
def EvPre (wg ob sz : Nat) (e : Event) : Prop := e.loc ≠ .mark .disable ∧ e.loc ≠ .mark .enable ∧ (∀ a, e.loc ≠ .mark (.release a)) ∧ ∀ x, (MemAct.ofEvent e).touch? = some x → TouchOk wg ob sz x
def Pre (wg ob sz : Nat) (op : MemOp) : Prop := op.g = 0 ∧ op.act ≠ .mark .disable ∧ op.act ≠ .mark .enable ∧ (∀ a, op.act ≠ .mark (.release a)) ∧ ∀ x, op.act.touch? = some x → TouchOk wg ob sz x
theorem TouchOk.mono {wg ob sz sz' : Nat} {x : Touch} (h : TouchOk wg ob sz x) (hs : sz ≤ sz') : TouchOk wg ob sz' x := by
  rcases h with ⟨ad, h1, h2, h3⟩ | ⟨b, h1, h2⟩
  · exact .inl ⟨ad, h1, by omega, h3⟩
  · exact .inr ⟨b, h1, by omega⟩
theorem Pre.mono {wg ob sz sz' : Nat} {op : MemOp} (h : Pre wg ob sz op) (hs : sz ≤ sz') : Pre wg ob sz' op := ⟨h.1, h.2.1, h.2.2.1, h.2.2.2.1, fun x hx => (h.2.2.2.2 x hx).mono hs⟩
theorem evpre_cell {wg ob sz : Nat} {a : Addr} {x s : Bool} (h : a.block < sz) (h1 : a.block ≠ ob) (h2 : a.block ≠ wg) : EvPre wg ob sz ⟨.cell a, x, s⟩ := by
  refine ⟨by simp, by simp, by simp, fun y hy => ?_⟩
  simp only [MemAct.ofEvent, MemAct.touch?, Option.some.injEq] at hy
  subst hy
  exact .inl ⟨a, rfl, h, h1, h2⟩
theorem evpre_obj {wg ob sz : Nat} {r : Nat} {x s : Bool} (h : r < sz) : EvPre wg ob sz ⟨.obj r, x, s⟩ := by
  refine ⟨by simp, by simp, by simp, fun y hy => ?_⟩
  cases x <;> cases s <;> simp [MemAct.ofEvent, MemAct.touch?] at hy <;> (subst hy; exact .inr ⟨r, rfl, h⟩)
theorem pre_events {wg ob sz : Nat} {fn : FuncId} {pos : String} {es : Array Event} (h : ∀ e ∈ es, EvPre wg ob sz e) : ∀ op ∈ MemOp.ofEvents 0 fn pos es, Pre wg ob sz op := by
  intro op hop
  obtain ⟨hg, e, he, ha⟩ := mem_ops hop
  obtain ⟨h1, h2, h3, h4⟩ := h e he
  rw [Pre, ha]
  exact ⟨hg, fun x => h1 (Go.ConcR.loc_of_ofEvent x), fun x => h2 (Go.ConcR.loc_of_ofEvent x), fun a x => h3 a (Go.ConcR.loc_of_ofEvent x), h4⟩
/-- The machine of one comes from here to there. -/
def To (P : Program) (wg ob : Nat) (T : Goroutine → World → Prop) (g : Goroutine) (w : World) : Prop :=
  ∀ t : Trace, (∀ op ∈ t, Pre wg ob w.heap.size op) → ∃ n g' w' t', runNT P n (solo g w) t = (.next (solo g' w'), t') ∧ T g' w' ∧ ∀ op ∈ t', Pre wg ob w'.heap.size op
section
variable {P : Program} {wg ob : Nat} {T : Goroutine → World → Prop} {g g' : Goroutine} {w w' : World} {es : Array Event}
theorem To.done (h : T g w) : To P wg ob T g w := fun t ht => ⟨0, g, w, t, rfl, h, ht⟩
theorem To.next {ops : Trace} (h : stepT P (solo g w) = (.next (solo g' w'), ops)) (hs : w.heap.size ≤ w'.heap.size) (ho : ∀ op ∈ ops, Pre wg ob w'.heap.size op) (k : To P wg ob T g' w') : To P wg ob T g w := fun t ht => by
  obtain ⟨n, g₂, w₂, t₂, h1, h2⟩ := k (t ++ ops) fun op hop => (Array.mem_append.1 hop).elim (fun x => (ht op x).mono hs) (ho op)
  refine ⟨n + 1, g₂, w₂, t₂, ?_, h2⟩
  rw [runNT, h]
  exact h1
theorem To.go (hr : g.status = .running) (h : stepG P true g w = .go g' w' es) (hs : w.heap.size ≤ w'.heap.size) (he : ∀ e ∈ es, EvPre wg ob w'.heap.size e) (k : To P wg ob T g' w') : To P wg ob T g w :=
  To.next ((stepT_solo hr).trans (runT_solo_go h)) hs (pre_events he) k
theorem To.send {c cap s r : Nat} {buf : Array Value} {v z : Value} {tm : Bool} (hr : g.status = .running) (h : stepG P true g w = .comm g #[scase c v z] true .send w #[]) (hc : w.heap[c]? = some (.chan cap buf false s r tm)) (hroom : buf.size < cap)
    (k : To P wg ob T (g.finishComm P #[scase c v z] .send 0 undef false) (w.setChan c cap (buf.push v) false (s + 1) r tm)) : To P wg ob T g w := by
  have hp : partners ((#[g] : Array Goroutine).setIfInBounds 0 ph) c false = [] := by simp [partners, ph]
  have st := crowd_send_room (P := P) (gs := #[g]) (sl := none) (i := 0) (g := g) (blocking := true) (shape := .send) rfl (by simpa using h) hc hroom hp
  rw [show (#[g] : Array Goroutine).setIfInBounds 0 (g.finishComm P #[scase c v z] .send 0 undef false) = #[g.finishComm P #[scase c v z] .send 0 undef false] by simp] at st
  refine To.next ((stepT_solo hr).trans st) (by simp [World.setChan]) (fun op hop => ?_) k
  simp at hop
  rcases hop with hop | rfl | rfl
  · obtain ⟨_, e, he, _⟩ := mem_ops hop
    simp at he
  · exact ⟨rfl, by simp, by simp, by simp, fun x hx => by simp [MemAct.touch?] at hx⟩
  · exact ⟨rfl, by simp, by simp, by simp, fun x hx => by simp [MemAct.touch?] at hx⟩
/-- This very world (hidden from the walk's rewriting). -/
def Is (w w₁ : World) : Prop := w₁ = w
theorem sil_to (w : World) : Sil P true (Is w) (fun b a k cs => To P wg ob T (G (b.at a k) cs) w) (fun b a k cs => To P wg ob T (G { b.at a k with mode := .returning } cs) w) :=
  sil_of (X := fun g => To P wg ob T g w) fun _ _ hs h k => To.go hs (h w rfl) (Nat.le_refl _) (fun e he => by simp at he) k
section
variable {b : Frame} {a : Act} {k : List Item} {cs : List Frame} {ops : Array Oper} {i : Nat} {rest : List Nat} {o : Oper}
theorem to_mem {v : Value} (ho : ops[i]? = some o) (hw : Region.wanted o (yielded ops a.tmps) = true) (hk : b.kind ≠ .early) (hr : (execOp a.eval o).run P w = .ok (.value v) w' ∨ ((execOp a.eval o).run P w = .ok .skip w' ∧ v = undef)) (hs : w.heap.size ≤ w'.heap.size)
    (he : ∀ e ∈ (execOp a.eval o).events P w #[], EvPre wg ob w'.heap.size e) (h : To P wg ob T (G (b.at (a.put o.dst v) (.inRegion ops rest :: k)) cs) w') : To P wg ob T (G (b.at a (.inRegion ops (i :: rest) :: k)) cs) w := by
  rcases hr with hr | ⟨hr, rfl⟩
  · exact To.go rfl (stepG_value ho hw hk hr) hs (fun e hm => he e (mem_listed hm)) h
  · exact To.go rfl (stepG_none ho hw hk hr) hs (fun e hm => he e (mem_listed hm)) h
theorem to_send {x y : Operand} {ch cap s r : Nat} {buf : Array Value} {v : Value} {tm : Bool} (ho : ops[i]? = some o) (hw : Region.wanted o (yielded ops a.tmps) = true) (hk : b.kind ≠ .early) (hop : o.op = .send x y) (hx : a.eval x = .chan (some ch)) (hy : a.eval y = v)
    (hc : w.heap[ch]? = some (.chan cap buf false s r tm)) (hroom : buf.size < cap) (h : To P wg ob T (G (b.at (a.put ((ops[i]?).bind (·.dst)) undef) (.inRegion ops rest :: k)) cs) (w.setChan ch cap (buf.push v) false (s + 1) r tm)) : To P wg ob T (G (b.at a (.inRegion ops (i :: rest) :: k)) cs) w := by
  refine To.send (z := undef) (v := v) rfl ?_ hc hroom ?_
  · rw [stepG_comm (cases := #[scase ch v undef]) (blocking := true) (shape := .send) (w' := w) ho hw hk]
    · rw [listed_none]
      unfold execOp
      simp only [hop, hx, hy]
      simp
    · unfold execOp
      simp only [hop, hx, hy]
      simp [scase]
      rfl
  · rw [finishComm_send]
    show To P wg ob T (G (Frame.finish (Frame.at _ _ _) _) cs) _
    rw [Frame.finish_at]
    exact h
end
end
end Go.Proofs.Ytebgcemglicjiaa

/- The starter alone: from the law's entry to the loop that starts the hands. Printed by gen_cvk.py. No condition of ours. -/
namespace Go.Proofs.Ytebgcemglicjiaa
open Go.Conc Go.ConcN Go.RowKit Go.Conc.Lib
open Go.ConcR (WgAt)
noncomputable def PL : Code := match body8 with | .seq _ (.seq _ (.seq _ (.seq (.seq _ (.block _ (.loop c))) _))) => c | _ => .skip
noncomputable def finP : Code := match body8 with | .seq _ (.seq _ (.seq _ (.seq _ c))) => c | _ => .skip
/-- So many blocks more, all else as it was. -/
structure PF (W : World) (N k : Nat) (w : World) : Prop where
  size : w.heap.size = N + k
  low : ∀ b, b < N → w.heap[b]? = W.heap[b]?
  os : w.os = W.os
  output : w.output = W.output
theorem PF.refl (W : World) : PF W W.heap.size 0 W := ⟨rfl, fun _ _ => rfl, rfl, rfl⟩
theorem PF.alloc {W w : World} {N k : Nat} (h : PF W N k w) (o : Obj) : PF W N (k + 1) (w.alloc o) ∧ (w.alloc o).heap[N + k]? = some o ∧ ∀ (b : Nat) (x : Obj), w.heap[b]? = some x → (w.alloc o).heap[b]? = some x := by
  have hs := h.size
  refine ⟨⟨?_, fun b hb => ?_, h.os, h.output⟩, ?_, fun b x hx => ?_⟩
  · rw [(alloc_at w o).2]; omega
  · rw [heap_alloc_old w o (by omega)]; exact h.low b hb
  · rw [← hs]; exact (alloc_at w o).1
  · rw [heap_alloc_old w o (Array.getElem?_eq_some_iff.1 hx).1]; exact hx
theorem PF.put {W w : World} {N k M : Nat} (h : PF W N k w) (hM : N ≤ M) (o : Obj) : PF W N k { w with heap := w.heap.setIfInBounds M o } ∧ (∀ x : Obj, w.heap[M]? = some x → ({ w with heap := w.heap.setIfInBounds M o } : World).heap[M]? = some o) ∧ ∀ (b : Nat) (x : Obj), w.heap[b]? = some x → b ≠ M → ({ w with heap := w.heap.setIfInBounds M o } : World).heap[b]? = some x := by
  refine ⟨⟨?_, fun b hb => ?_, h.os, h.output⟩, fun x hx => ?_, fun b x hx hne => ?_⟩
  · show (w.heap.setIfInBounds M o).size = _; rw [Array.size_setIfInBounds]; exact h.size
  · show (w.heap.setIfInBounds M o)[b]? = _; rw [Array.getElem?_setIfInBounds_ne (by omega)]; exact h.low b hb
  · show (w.heap.setIfInBounds M o)[M]? = _; rw [Array.getElem?_setIfInBounds_self_of_lt (Array.getElem?_eq_some_iff.1 hx).1]
  · show (w.heap.setIfInBounds M o)[b]? = _; rw [Array.getElem?_setIfInBounds_ne (Ne.symm hne)]; exact hx
theorem set_one {w : World} {g : Nat} {t : TypeId} {u v : Value} (hg : w.heap[g]? = some (.cells #[u] t (0, 0))) : w.setCell ⟨g, 0, none⟩ v = { w with heap := w.heap.setIfInBounds g (.cells #[v] t) } := by
  rw [setCell_eq_setRow w g 0 #[u] t (0, 0) v hg, setRow_at hg]
  rfl
theorem cell_one {w : World} {g : Nat} {t : TypeId} {u : Value} (hg : w.heap[g]? = some (.cells #[u] t (0, 0))) : w.cell? ⟨g, 0, none⟩ = some u ∧ w.frozen? ⟨g, 0, none⟩ = false := ⟨by simp [World.cell?, hg], by simp [World.frozen?, hg]⟩
def jobOf (ts : Nat → ByteArray) (a : Nat) : Value := .agg #[.int .i64 a, .string (ts a)]
/-- The world in the loop that fills the channel. -/
structure WP (W : World) (N n : Nat) (ts : Nat → ByteArray) (i : Nat) (w : World) : Prop where
  pf : PF W N 5 w
  bd : ∃ t, w.heap[N]? = some (.cells #[.func (.func 9) #[] #[]] t)
  ob : ∃ cs, w.heap[N + 1]? = some (.cells cs 34) ∧ cs.size = 2 * n
  bo : ∃ t, w.heap[N + 2]? = some (.cells #[.slice (some ⟨N + 1, 0, none⟩) n n] t)
  ch : ∃ s r, w.heap[N + 3]? = some (.chan n ((List.range i).map (jobOf ts)).toArray false s r false)
  bj : ∃ t, w.heap[N + 4]? = some (.cells #[.chan (some (N + 3))] t)
/-- At the loop that starts the hands. -/
structure Ready (W : World) (N n : Nat) (ts : Nat → ByteArray) (w : World) : Prop where
  pf : PF W N 6 w
  bd : ∃ t, w.heap[N]? = some (.cells #[.func (.func 9) #[] #[]] t)
  ob : ∃ cs, w.heap[N + 1]? = some (.cells cs 34) ∧ cs.size = 2 * n
  bo : ∃ t, w.heap[N + 2]? = some (.cells #[.slice (some ⟨N + 1, 0, none⟩) n n] t)
  ch : ∃ s r, w.heap[N + 3]? = some (.chan n ((List.range n).map (jobOf ts)).toArray true s r false)
  bj : ∃ t, w.heap[N + 4]? = some (.cells #[.chan (some (N + 3))] t)
  wg : w.heap[N + 5]? = some (.cells #[.int .u64 0, .int .u32 0] 54)
structure SlotsP (a0 : Option Addr) (N n c0 h i : Nat) (T : Array Value) : Prop where
  size : T.size = 39
  h : T[1]? = some (.int .i64 h)
  bd : T[5]? = some (.pointer (some ⟨N, 0, none⟩))
  bo : T[7]? = some (.pointer (some ⟨N + 2, 0, none⟩))
  bj : T[8]? = some (.pointer (some ⟨N + 4, 0, none⟩))
  l : T[18]? = some (.slice a0 n c0)
  top : T[19]? = some (.int .i64 n)
  at_ : T[20]? = some (.int .i64 i)
structure SlotsR (N h : Nat) (T : Array Value) : Prop where
  size : T.size = 39
  bd : T[5]? = some (.pointer (some ⟨N, 0, none⟩))
  bo : T[7]? = some (.pointer (some ⟨N + 2, 0, none⟩))
  bj : T[8]? = some (.pointer (some ⟨N + 4, 0, none⟩))
  wg : T[11]? = some (.pointer (some ⟨N + 5, 0, none⟩))
  top : T[31]? = some (.int .i64 h)
  at_ : T[32]? = some (.int .i64 0)
section
variable {a0 : Option Addr} {N n c0 h : Nat} {Tg : Goroutine → World → Prop} {ts : Nat → ByteArray}
set_option maxRecDepth 100000 in
set_option maxHeartbeats 4000000 in
theorem pre_law {w : World} (hk : ∀ TL : Array Value, TL.size = 58 → TL[0]? = some (.slice a0 n c0) → TL[1]? = some (.int .i64 h) →
      To Try.prog (N + 5) (N + 1) Tg (G ((base 4).at ⟨#[.slice a0 n c0, .int .i64 h, undef, undef, undef, undef, undef, undef, undef, undef, undef, undef, undef, undef, undef, undef, undef, undef, undef, undef, undef, undef, undef, undef, undef, undef, undef, undef, undef, undef, undef, undef, undef, undef, undef, undef], []⟩ [.code bodyO]) [(base 3).at ⟨TL, []⟩ [.inRegion opsL1 [2, 3, 4, 5, 6, 7], .code finL1]]) w) :
    To Try.prog (N + 5) (N + 1) Tg (G (Frame.enter Try.prog 3 #[.slice a0 n c0, .int .i64 h] .normal) []) w := by
  have he : Frame.enter Try.prog 3 #[.slice a0 n c0, .int .i64 h] .normal = (base 3).at ⟨#[.slice a0 n c0, .int .i64 h, undef, undef, undef, undef, undef, undef, undef, undef, undef, undef, undef, undef, undef, undef, undef, undef, undef, undef, undef, undef, undef, undef, undef, undef, undef, undef, undef, undef, undef, undef, undef, undef, undef, undef, undef, undef, undef, undef, undef, undef, undef, undef, undef, undef, undef, undef, undef, undef, undef, undef, undef, undef, undef, undef, undef, undef], []⟩ [.code bodyL] := by
    simp [Frame.enter, Frame.at, base, bodyL, Try.func3, Try.f3]
  rw [he]
  simp only [bodyO, opsL1, finL1, bodyL, Try.f3, Try.f4, Option.getD_some] at hk ⊢
  obtain ⟨Y, hY⟩ : ∃ Y, Y = (fun bq aq kq cq => To Try.prog (N + 5) (N + 1) Tg (G (Frame.at bq aq kq) cq) w) := ⟨_, rfl⟩
  obtain ⟨Z, hZ⟩ : ∃ Z, Z = (fun bq aq kq cq => To Try.prog (N + 5) (N + 1) Tg (G { Frame.at bq aq kq with mode := .returning } cq) w) := ⟨_, rfl⟩
  have S : Sil Try.prog true (Is w) Y Z := by rw [hY, hZ]; exact sil_to w
  suffices h : Y _ _ _ _ by rw [hY] at h; exact h
  repeat (first
    | refine sl_done S ?_
    | refine sl_seq S ?_
    | refine sl_skip S ?_
    | (co_apply sl_region S (by simp only [List.size_toArray, List.length_cons, List.length_nil, Nat.reduceAdd, Nat.zero_add, List.range, List.range.loop]; exact rfl))
    | refine sl_true S rfl ?_
    | refine sl_false S rfl ?_
    | refine sl_ret S ?_
    | refine sl_block S ?_
    | refine sl_loop S ?_
    | refine sl_inBlock S ?_
    | (refine sl_exit S (k' := _) rfl ?_)
    | refine sl_end S ?_
    | (co_apply sl_off S rfl rfl; (focus (walk_nrm; exact rfl)))
    | (co_apply sl_op S rfl rfl (by k_ne); (focus (intro W _ K hK; go_simp; (try w_num); exact hK)); (focus (intro W _; simp [go_sem, *])); (focus (walk_nrm; exact rfl))))
  co_apply sl_call S rfl rfl (by k_ne) rfl Try.func4 (by kernel_rfl) rfl
  · walk_nrmf Try.f4
    exact rfl
  rw [hY]
  exact hk _ rfl rfl rfl
set_option maxRecDepth 100000 in
set_option maxHeartbeats 4000000 in
theorem pre_open {w : World} {cs : List Frame} (h1 : 1 ≤ h) (h8 : h ≤ 8) (n16 : n ≤ 16) (hk : ∀ TO : Array Value, TO.size = 36 → TO[7]? = some (.slice none 0 0) →
      To Try.prog (N + 5) (N + 1) Tg (G ((base 8).at ⟨#[.slice a0 n c0, .int .i64 h, .func (.func 9) #[] #[], undef, undef, undef, undef, undef, undef, undef, undef, undef, undef, undef, undef, undef, undef, undef, undef, undef, undef, undef, undef, undef, undef, undef, undef, undef, undef, undef, undef, undef, undef, undef, undef, undef, undef, undef, undef], []⟩ [.code body8]) ((base 4).at ⟨TO, []⟩ [.inRegion opsO [2, 3, 4], .code (.block 0 (.loop LO)), .code finO] :: cs)) w) :
    To Try.prog (N + 5) (N + 1) Tg (G ((base 4).at ⟨#[.slice a0 n c0, .int .i64 h, undef, undef, undef, undef, undef, undef, undef, undef, undef, undef, undef, undef, undef, undef, undef, undef, undef, undef, undef, undef, undef, undef, undef, undef, undef, undef, undef, undef, undef, undef, undef, undef, undef, undef], []⟩ [.code bodyO]) cs) w := by
  have d1 : ¬ ((h : Int) < 1) := by omega
  have d8 : ¬ ((8 : Int) < (h : Int)) := by omega
  have dn : ¬ ((16 : Int) < (n : Int)) := by omega
  simp only [body8, bodyO, opsO, LO, finO, Try.f8, Try.f4, Option.getD_some] at hk ⊢
  obtain ⟨Y, hY⟩ : ∃ Y, Y = (fun bq aq kq cq => To Try.prog (N + 5) (N + 1) Tg (G (Frame.at bq aq kq) cq) w) := ⟨_, rfl⟩
  obtain ⟨Z, hZ⟩ : ∃ Z, Z = (fun bq aq kq cq => To Try.prog (N + 5) (N + 1) Tg (G { Frame.at bq aq kq with mode := .returning } cq) w) := ⟨_, rfl⟩
  have S : Sil Try.prog true (Is w) Y Z := by rw [hY, hZ]; exact sil_to w
  suffices h : Y _ _ _ _ by rw [hY] at h; exact h
  repeat (first
    | refine sl_done S ?_
    | refine sl_seq S ?_
    | refine sl_skip S ?_
    | (co_apply sl_region S (by simp only [List.size_toArray, List.length_cons, List.length_nil, Nat.reduceAdd, Nat.zero_add, List.range, List.range.loop]; exact rfl))
    | refine sl_true S rfl ?_
    | refine sl_false S rfl ?_
    | refine sl_ret S ?_
    | refine sl_block S ?_
    | refine sl_loop S ?_
    | refine sl_inBlock S ?_
    | (refine sl_exit S (k' := _) rfl ?_)
    | refine sl_end S ?_
    | (co_apply sl_off S rfl rfl; (focus (walk_nrm; exact rfl)))
    | (co_apply sl_call S rfl rfl (by k_ne) rfl Try.func7 (by kernel_rfl) rfl; (focus (walk_nrmf Try.f7; exact rfl)))
    | (co_apply sl_leave1 S rfl rfl Try.func7 rfl; (focus (walk_nrm; exact rfl)))
    | (co_apply sl_op S rfl rfl (by k_ne); (focus (intro W _ K hK; go_simp; (try w_num); exact hK)); (focus (intro W _; simp [go_sem, *])); (focus (walk_nrm; exact rfl))))
  co_apply sl_call S rfl rfl (by k_ne) rfl Try.func8 (by kernel_rfl) rfl
  · walk_nrmf Try.f8
    exact rfl
  rw [hY]
  exact hk _ rfl rfl
end
end Go.Proofs.Ytebgcemglicjiaa

namespace Go.Proofs.Ytebgcemglicjiaa
open Go.Conc Go.ConcN Go.RowKit Go.Conc.Lib
open Go.ConcR (WgAt)
noncomputable def r8A : Code := match finP with | .seq c _ => c | _ => .skip
noncomputable def r9A : Code := match finP with | .seq _ (.seq c _) => c | _ => .skip
noncomputable def r10A : Code := match finP with | .seq _ (.seq _ (.seq (.seq c _) _)) => c | _ => .skip
theorem finP_eq : finP = .seq r8A (.seq r9A (.seq (.seq r10A (.block 2 (.loop sloop))) sfin)) := by kernel_rfl
theorem run_close_op {P : Program} {o : Oper} {a : Act} {w : World} {x : Operand} {t : TypeId} {r room s rc : Nat} {buf : Array Value} {tm : Bool} (h : w.heap[r]? = some (.chan room buf false s rc tm)) (ho : o.op = .call { callee := .builtin .close, args := #[x], argTypes := #[t] } := by rfl) (hx : a.eval x = .chan (some r) := by rfl) :
    (execOp a.eval o).run P w = .ok (.value (.tuple #[])) { w with heap := w.heap.setIfInBounds r (.chan room buf true s rc tm) } := by
  unfold execOp
  simp only [ho, resolve, invoke, builtin, Sem.run_bind, Sem.run_pure, Result.andThen_ok, List.map_toArray, List.map_cons, List.map_nil, hx, run_close_open _ _ h]
theorem events_close_op {P : Program} {o : Oper} {a : Act} {w : World} {x : Operand} {t : TypeId} {r room s rc : Nat} {buf : Array Value} {tm : Bool} (h : w.heap[r]? = some (.chan room buf false s rc tm)) (e : Event) (he : e ∈ (execOp a.eval o).events P w #[]) (ho : o.op = .call { callee := .builtin .close, args := #[x], argTypes := #[t] } := by rfl) (hx : a.eval x = .chan (some r) := by rfl) :
    e = ⟨.obj r, false, true⟩ ∨ e = ⟨.obj r, true, true⟩ := by
  unfold execOp at he
  simp only [ho, resolve, invoke, builtin, Sem.events_bind, Sem.run_pure, Sem.events_pure, Result.evThen_ok, List.map_toArray, List.map_cons, List.map_nil, hx, events_close_open _ _ h, run_close_open _ _ h] at he
  simpa using he
section
variable {a0 : Option Addr} {N n c0 h : Nat} {Tg : Goroutine → World → Prop} {ts : Nat → ByteArray} {W : World} {cs : List Frame}
theorem jobs_push (ts : Nat → ByteArray) (i : Nat) : ((List.range i).map (jobOf ts)).toArray.push (.agg #[.int .i64 i, .string (ts i)]) = ((List.range (i + 1)).map (jobOf ts)).toArray := by
  simp [List.range_succ, jobOf]
theorem jobs_size (ts : Nat → ByteArray) (i : Nat) : ((List.range i).map (jobOf ts)).toArray.size = i := by simp
set_option maxRecDepth 100000 in
set_option maxHeartbeats 8000000 in
theorem pre_fill (hrow : ∀ i, i < n → ∃ b o, a0 = some ⟨b, o, none⟩ ∧ b < N ∧ W.cell? ⟨b, o + i, none⟩ = some (.string (ts i))) (n16 : n ≤ 16)
    (hk : ∀ w T, WP W N n ts n w → T.size = 39 → T[1]? = some (.int .i64 h) → T[5]? = some (.pointer (some ⟨N, 0, none⟩)) → T[7]? = some (.pointer (some ⟨N + 2, 0, none⟩)) → T[8]? = some (.pointer (some ⟨N + 4, 0, none⟩)) →
      To Try.prog (N + 5) (N + 1) Tg (G ((base 8).at ⟨T, []⟩ [.code finP]) cs) w) :
    ∀ k i, i + k = n → ∀ w T, WP W N n ts i w → SlotsP a0 N n c0 h i T → To Try.prog (N + 5) (N + 1) Tg (G ((base 8).at ⟨T, []⟩ [.code PL, .inLoop PL, .inBlock 0, .code finP]) cs) w := by
  intro k
  induction k with
  | zero =>
    intro i hi w T hw hs
    obtain ⟨s0, t1, t5, t7, t8, t18, t19, t20⟩ := hs
    obtain ⟨v0, v1, v2, v3, v4, v5, v6, v7, v8, v9, v10, v11, v12, v13, v14, v15, v16, v17, v18, v19, v20, v21, v22, v23, v24, v25, v26, v27, v28, v29, v30, v31, v32, v33, v34, v35, v36, v37, v38, rfl⟩ := array39 T s0
    simp only [List.getElem?_toArray, List.getElem?_cons_zero, List.getElem?_cons_succ, Option.some.injEq] at t1 t5 t7 t8 t18 t19 t20
    subst t1 t5 t7 t8 t18 t19 t20
    obtain rfl : i = n := by omega
    simp only [PL, body8, Try.f8, Option.getD_some]
    generalize finP = FP at hk ⊢
    obtain ⟨Y, hY⟩ : ∃ Y, Y = (fun bq aq kq cq => To Try.prog (N + 5) (N + 1) Tg (G (Frame.at bq aq kq) cq) w) := ⟨_, rfl⟩
    obtain ⟨Z, hZ⟩ : ∃ Z, Z = (fun bq aq kq cq => To Try.prog (N + 5) (N + 1) Tg (G { Frame.at bq aq kq with mode := .returning } cq) w) := ⟨_, rfl⟩
    have S : Sil Try.prog true (Is w) Y Z := by rw [hY, hZ]; exact sil_to w
    suffices h : Y _ _ _ _ by rw [hY] at h; exact h
    repeat (first
      | refine sl_done S ?_
      | refine sl_seq S ?_
      | refine sl_skip S ?_
      | (co_apply sl_region S (by simp only [List.size_toArray, List.length_cons, List.length_nil, Nat.zero_add, List.range, List.range.loop]; exact rfl))
      | refine sl_true S rfl ?_
      | refine sl_false S rfl ?_
      | refine sl_ret S ?_
      | refine sl_block S ?_
      | refine sl_loop S ?_
      | refine sl_inBlock S ?_
      | (refine sl_exit S (k' := _) rfl ?_)
      | refine sl_end S ?_
      | (co_apply sl_off S rfl rfl; (focus (walk_nrm; exact rfl)))
      | (co_apply sl_op S rfl rfl (by k_ne); (focus (intro W _ K hK; go_simp; (try w_num); exact hK)); (focus (intro W _; simp [go_sem, *])); (focus (walk_nrm; exact rfl))))
    rw [hY]
    exact hk w _ hw rfl rfl rfl rfl rfl
  | succ k ih =>
    intro i hi w T hw hs
    obtain ⟨s0, t1, t5, t7, t8, t18, t19, t20⟩ := hs
    obtain ⟨b, o, ea, p1, p2⟩ := hrow i (by omega)
    subst ea
    obtain ⟨v0, v1, v2, v3, v4, v5, v6, v7, v8, v9, v10, v11, v12, v13, v14, v15, v16, v17, v18, v19, v20, v21, v22, v23, v24, v25, v26, v27, v28, v29, v30, v31, v32, v33, v34, v35, v36, v37, v38, rfl⟩ := array39 T s0
    simp only [List.getElem?_toArray, List.getElem?_cons_zero, List.getElem?_cons_succ, Option.some.injEq] at t1 t5 t7 t8 t18 t19 t20
    subst t1 t5 t7 t8 t18 t19 t20
    obtain ⟨pf, hbd, hob, hbo, ⟨cs', cr, hch⟩, tj, hbj⟩ := hw
    have hlt : (i : Int) < (n : Int) := by omega
    have h0 : (0 : Int) ≤ (i : Int) := by omega
    have hsz := pf.size
    have hcL : w.cell? ⟨b, o + i, none⟩ = some (.string (ts i)) := by rw [← p2]; unfold World.cell?; rw [pf.low b p1]
    obtain ⟨hcJ, _⟩ := cell_one hbj
    simp only [PL, body8, Try.f8, Option.getD_some] at ih ⊢
    generalize finP = FP at hk ih ⊢
    obtain ⟨Y, hY⟩ : ∃ Y, Y = (fun bq aq kq cq => To Try.prog (N + 5) (N + 1) Tg (G (Frame.at bq aq kq) cq) w) := ⟨_, rfl⟩
    obtain ⟨Z, hZ⟩ : ∃ Z, Z = (fun bq aq kq cq => To Try.prog (N + 5) (N + 1) Tg (G { Frame.at bq aq kq with mode := .returning } cq) w) := ⟨_, rfl⟩
    have S : Sil Try.prog true (Is w) Y Z := by rw [hY, hZ]; exact sil_to w
    suffices h : Y _ _ _ _ by rw [hY] at h; exact h
    repeat (first
      | refine sl_done S ?_
      | refine sl_seq S ?_
      | refine sl_skip S ?_
      | (co_apply sl_region S (by simp only [List.size_toArray, List.length_cons, List.length_nil, Nat.reduceAdd, Nat.zero_add, List.range, List.range.loop]; exact rfl))
      | refine sl_true S rfl ?_
      | refine sl_false S rfl ?_
      | refine sl_ret S ?_
      | refine sl_block S ?_
      | refine sl_loop S ?_
      | refine sl_inBlock S ?_
      | (refine sl_exit S (k' := _) rfl ?_)
      | refine sl_end S ?_
      | (co_apply sl_off S rfl rfl; (focus (walk_nrm; exact rfl)))
      | (co_apply sl_op S rfl rfl (by k_ne); (focus (intro W _ K hK; go_simp; (try w_num); exact hK)); (focus (intro W _; simp [go_sem, *])); (focus (walk_nrm; exact rfl))))
    rw [hY]
    refine to_mem (v := .string (ts i)) (w' := w) rfl rfl (by k_ne) (.inl (by go_simp)) (Nat.le_refl _) (fun e he => by simp [go_sem, hcL] at he; subst he; exact evpre_cell (by show b < _; omega) (by show b ≠ _; omega) (by show b ≠ _; omega)) ?_
    walk_nrm
    suffices h : Y _ _ _ _ by rw [hY] at h; exact h
    repeat (first
      | refine sl_done S ?_
      | refine sl_seq S ?_
      | refine sl_skip S ?_
      | (co_apply sl_region S (by simp only [List.size_toArray, List.length_cons, List.length_nil, Nat.reduceAdd, Nat.zero_add, List.range, List.range.loop]; exact rfl))
      | refine sl_true S rfl ?_
      | refine sl_false S rfl ?_
      | refine sl_ret S ?_
      | refine sl_block S ?_
      | refine sl_loop S ?_
      | refine sl_inBlock S ?_
      | (refine sl_exit S (k' := _) rfl ?_)
      | refine sl_end S ?_
      | (co_apply sl_off S rfl rfl; (focus (walk_nrm; exact rfl)))
      | (co_apply sl_op S rfl rfl (by k_ne); (focus (intro W _ K hK; go_simp; (try w_num); exact hK)); (focus (intro W _; simp [go_sem, *])); (focus (walk_nrm; exact rfl))))
    rw [hY]
    refine to_mem (v := .chan (some (N + 3))) (w' := w) rfl rfl (by k_ne) (.inl (by go_simp)) (Nat.le_refl _) (fun e he => by simp [go_sem, hcJ] at he; subst he; exact evpre_cell (by show N + 4 < _; omega) (by show N + 4 ≠ _; omega) (by show N + 4 ≠ _; omega)) ?_
    walk_nrm
    suffices h : Y _ _ _ _ by rw [hY] at h; exact h
    repeat (first
      | refine sl_done S ?_
      | refine sl_seq S ?_
      | refine sl_skip S ?_
      | (co_apply sl_region S (by simp only [List.size_toArray, List.length_cons, List.length_nil, Nat.reduceAdd, Nat.zero_add, List.range, List.range.loop]; exact rfl))
      | refine sl_true S rfl ?_
      | refine sl_false S rfl ?_
      | refine sl_ret S ?_
      | refine sl_block S ?_
      | refine sl_loop S ?_
      | refine sl_inBlock S ?_
      | (refine sl_exit S (k' := _) rfl ?_)
      | refine sl_end S ?_
      | (co_apply sl_off S rfl rfl; (focus (walk_nrm; exact rfl)))
      | (co_apply sl_op S rfl rfl (by k_ne); (focus (intro W _ K hK; go_simp; (try w_num); exact hK)); (focus (intro W _; simp [go_sem, *])); (focus (walk_nrm; exact rfl))))
    rw [hY]
    clear hY hZ S Y Z
    refine to_send (ch := N + 3) (v := .agg #[.int .i64 i, .string (ts i)]) rfl rfl (by k_ne) rfl rfl rfl hch (by rw [jobs_size]; omega) ?_
    rw [jobs_push]
    walk_nrm
    have hlen : N + 3 < w.heap.size := by omega
    have hw' : WP W N n ts (i + 1) (w.setChan (N + 3) n ((List.range (i + 1)).map (jobOf ts)).toArray false (cs' + 1) cr false) := by
      obtain ⟨q1, q2, q3⟩ := pf.put (M := N + 3) (by omega) (.chan n ((List.range (i + 1)).map (jobOf ts)).toArray false (cs' + 1) cr false)
      obtain ⟨td, hbd⟩ := hbd
      obtain ⟨co, hob, hos⟩ := hob
      obtain ⟨tb, hbo⟩ := hbo
      exact ⟨q1, ⟨td, q3 _ _ hbd (by omega)⟩, ⟨co, q3 _ _ hob (by omega), hos⟩, ⟨tb, q3 _ _ hbo (by omega)⟩, ⟨_, _, q2 _ hch⟩, ⟨tj, q3 _ _ hbj (by omega)⟩⟩
    generalize w.setChan (N + 3) n ((List.range (i + 1)).map (jobOf ts)).toArray false (cs' + 1) cr false = w2 at hw' ⊢
    clear hch hcJ hcL
    obtain ⟨Y, hY⟩ : ∃ Y, Y = (fun bq aq kq cq => To Try.prog (N + 5) (N + 1) Tg (G (Frame.at bq aq kq) cq) w2) := ⟨_, rfl⟩
    obtain ⟨Z, hZ⟩ : ∃ Z, Z = (fun bq aq kq cq => To Try.prog (N + 5) (N + 1) Tg (G { Frame.at bq aq kq with mode := .returning } cq) w2) := ⟨_, rfl⟩
    have S : Sil Try.prog true (Is w2) Y Z := by rw [hY, hZ]; exact sil_to w2
    suffices h : Y _ _ _ _ by rw [hY] at h; exact h
    repeat (first
      | refine sl_done S ?_
      | refine sl_seq S ?_
      | refine sl_skip S ?_
      | (co_apply sl_region S (by simp only [List.size_toArray, List.length_cons, List.length_nil, Nat.reduceAdd, Nat.zero_add, List.range, List.range.loop]; exact rfl))
      | refine sl_true S rfl ?_
      | refine sl_false S rfl ?_
      | refine sl_ret S ?_
      | refine sl_block S ?_
      | refine sl_loop S ?_
      | refine sl_inBlock S ?_
      | (refine sl_exit S (k' := _) rfl ?_)
      | refine sl_end S ?_
      | (co_apply sl_off S rfl rfl; (focus (walk_nrm; exact rfl)))
      | (co_apply sl_op S rfl rfl (by k_ne); (focus (intro W _ K hK; go_simp; (try w_num); exact hK)); (focus (intro W _; simp [go_sem, *])); (focus (walk_nrm; exact rfl))))
    refine sl_inLoop S ?_
    rw [hY]
    refine ih (i + 1) (by omega) w2 _ hw' ⟨rfl, rfl, rfl, rfl, rfl, rfl, rfl, ?_⟩
    show some (Value.int .i64 (IntKind.i64.wrap ((i : Int) + 1))) = _
    rw [show IntKind.i64.wrap ((i : Int) + 1) = ((i + 1 : Nat) : Int) by rw [IntKind.wrap_i64]; omega]
set_option maxRecDepth 100000 in
set_option maxHeartbeats 8000000 in
theorem pre_last {w : World} {T : Array Value} (hw : WP W N n ts n w) (s0 : T.size = 39) (t1 : T[1]? = some (.int .i64 h)) (t5 : T[5]? = some (.pointer (some ⟨N, 0, none⟩))) (t7 : T[7]? = some (.pointer (some ⟨N + 2, 0, none⟩))) (t8 : T[8]? = some (.pointer (some ⟨N + 4, 0, none⟩)))
    (hk : ∀ w T, Ready W N n ts w → SlotsR N h T → To Try.prog (N + 5) (N + 1) Tg (G ((base 8).at ⟨T, []⟩ [.code sloop, .inLoop sloop, .inBlock 2, .code sfin]) cs) w) :
    To Try.prog (N + 5) (N + 1) Tg (G ((base 8).at ⟨T, []⟩ [.code finP]) cs) w := by
  obtain ⟨v0, v1, v2, v3, v4, v5, v6, v7, v8, v9, v10, v11, v12, v13, v14, v15, v16, v17, v18, v19, v20, v21, v22, v23, v24, v25, v26, v27, v28, v29, v30, v31, v32, v33, v34, v35, v36, v37, v38, rfl⟩ := array39 T s0
  simp only [List.getElem?_toArray, List.getElem?_cons_zero, List.getElem?_cons_succ, Option.some.injEq] at t1 t5 t7 t8
  subst t1 t5 t7 t8
  obtain ⟨pf, ⟨td, hbd⟩, ⟨co, hob, hos⟩, ⟨tb, hbo⟩, ⟨cs', cr, hch⟩, tj, hbj⟩ := hw
  have hsz := pf.size
  obtain ⟨hcJ, _⟩ := cell_one hbj
  rw [finP_eq]
  simp only [r8A, r9A, r10A, finP, body8, Try.f8, Option.getD_some]
  generalize sfin = FP at hk ⊢
  generalize sloop = QL at hk ⊢
  obtain ⟨Y, hY⟩ : ∃ Y, Y = (fun bq aq kq cq => To Try.prog (N + 5) (N + 1) Tg (G (Frame.at bq aq kq) cq) w) := ⟨_, rfl⟩
  obtain ⟨Z, hZ⟩ : ∃ Z, Z = (fun bq aq kq cq => To Try.prog (N + 5) (N + 1) Tg (G { Frame.at bq aq kq with mode := .returning } cq) w) := ⟨_, rfl⟩
  have S : Sil Try.prog true (Is w) Y Z := by rw [hY, hZ]; exact sil_to w
  suffices h : Y _ _ _ _ by rw [hY] at h; exact h
  repeat (first
    | refine sl_done S ?_
    | refine sl_seq S ?_
    | refine sl_skip S ?_
    | (co_apply sl_region S (by simp only [List.size_toArray, List.length_cons, List.length_nil, Nat.reduceAdd, Nat.zero_add, List.range, List.range.loop]; exact rfl))
    | refine sl_true S rfl ?_
    | refine sl_false S rfl ?_
    | refine sl_ret S ?_
    | refine sl_block S ?_
    | refine sl_loop S ?_
    | refine sl_inBlock S ?_
    | (refine sl_exit S (k' := _) rfl ?_)
    | refine sl_end S ?_
    | (co_apply sl_off S rfl rfl; (focus (walk_nrm; exact rfl)))
    | (co_apply sl_op S rfl rfl (by k_ne); (focus (intro W _ K hK; go_simp; (try w_num); exact hK)); (focus (intro W _; simp [go_sem, *])); (focus (walk_nrm; exact rfl))))
  rw [hY]
  refine to_mem (v := .chan (some (N + 3))) (w' := w) rfl rfl (by k_ne) (.inl (by go_simp)) (Nat.le_refl _) (fun e he => by simp [go_sem, hcJ] at he; subst he; exact evpre_cell (by show N + 4 < _; omega) (by show N + 4 ≠ _; omega) (by show N + 4 ≠ _; omega)) ?_
  walk_nrm
  suffices h : Y _ _ _ _ by rw [hY] at h; exact h
  repeat (first
    | refine sl_done S ?_
    | refine sl_seq S ?_
    | refine sl_skip S ?_
    | (co_apply sl_region S (by simp only [List.size_toArray, List.length_cons, List.length_nil, Nat.reduceAdd, Nat.zero_add, List.range, List.range.loop]; exact rfl))
    | refine sl_true S rfl ?_
    | refine sl_false S rfl ?_
    | refine sl_ret S ?_
    | refine sl_block S ?_
    | refine sl_loop S ?_
    | refine sl_inBlock S ?_
    | (refine sl_exit S (k' := _) rfl ?_)
    | refine sl_end S ?_
    | (co_apply sl_off S rfl rfl; (focus (walk_nrm; exact rfl)))
    | (co_apply sl_op S rfl rfl (by k_ne); (focus (intro W _ K hK; go_simp; (try w_num); exact hK)); (focus (intro W _; simp [go_sem, *])); (focus (walk_nrm; exact rfl))))
  rw [hY]
  clear hY hZ S Y Z
  refine to_mem (v := .tuple #[]) (w' := { w with heap := w.heap.setIfInBounds (N + 3) (.chan n ((List.range n).map (jobOf ts)).toArray true cs' cr false) }) rfl rfl (by k_ne) (.inl ?_) ?_ (fun e he => ?_) ?_
  · exact run_close_op hch
  · show w.heap.size ≤ (w.heap.setIfInBounds (N + 3) _).size
    rw [Array.size_setIfInBounds]; exact Nat.le_refl _
  · have hlen : N + 3 < (w.heap.setIfInBounds (N + 3) (.chan n ((List.range n).map (jobOf ts)).toArray true cs' cr false)).size := by rw [Array.size_setIfInBounds]; omega
    rcases events_close_op hch e he with rfl | rfl
    · exact evpre_obj hlen
    · exact evpre_obj hlen
  obtain ⟨q1, q2, q3⟩ := pf.put (M := N + 3) (by omega) (.chan n ((List.range n).map (jobOf ts)).toArray true cs' cr false)
  replace hbd := q3 _ _ hbd (by omega)
  replace hob := q3 _ _ hob (by omega)
  replace hbo := q3 _ _ hbo (by omega)
  replace hbj := q3 _ _ hbj (by omega)
  replace hch := q2 _ hch
  clear q2 q3 hcJ pf hsz
  generalize ({ w with heap := w.heap.setIfInBounds (N + 3) (.chan n ((List.range n).map (jobOf ts)).toArray true cs' cr false) } : World) = w2 at *
  walk_nrm
  obtain ⟨Y, hY⟩ : ∃ Y, Y = (fun bq aq kq cq => To Try.prog (N + 5) (N + 1) Tg (G (Frame.at bq aq kq) cq) w2) := ⟨_, rfl⟩
  obtain ⟨Z, hZ⟩ : ∃ Z, Z = (fun bq aq kq cq => To Try.prog (N + 5) (N + 1) Tg (G { Frame.at bq aq kq with mode := .returning } cq) w2) := ⟨_, rfl⟩
  have S : Sil Try.prog true (Is w2) Y Z := by rw [hY, hZ]; exact sil_to w2
  suffices h : Y _ _ _ _ by rw [hY] at h; exact h
  repeat (first
    | refine sl_done S ?_
    | refine sl_seq S ?_
    | refine sl_skip S ?_
    | (co_apply sl_region S (by simp only [List.size_toArray, List.length_cons, List.length_nil, Nat.zero_add, List.range, List.range.loop]; exact rfl))
    | refine sl_true S rfl ?_
    | refine sl_false S rfl ?_
    | refine sl_ret S ?_
    | refine sl_block S ?_
    | refine sl_loop S ?_
    | refine sl_inBlock S ?_
    | (refine sl_exit S (k' := _) rfl ?_)
    | refine sl_end S ?_
    | (co_apply sl_off S rfl rfl; (focus (walk_nrm; exact rfl)))
    | (co_apply sl_op S rfl rfl (by k_ne); (focus (intro W _ K hK; go_simp; (try w_num); exact hK)); (focus (intro W _; simp [go_sem, *])); (focus (walk_nrm; exact rfl))))
  rw [hY]
  clear hY hZ S Y Z
  have hsz := q1.size
  refine to_mem (v := .pointer (some ⟨w2.heap.size, 0, none⟩)) (w' := w2.alloc (.cells #[.int .u64 0, .int .u32 0] 54)) rfl rfl (by k_ne) (.inl (by go_simp)) (by rw [(alloc_at _ _).2]; omega) (fun e he => by simp [go_sem] at he) ?_
  obtain ⟨u1, u2, u3⟩ := q1.alloc (.cells #[.int .u64 0, .int .u32 0] 54)
  replace hbd := u3 _ _ hbd
  replace hob := u3 _ _ hob
  replace hbo := u3 _ _ hbo
  replace hbj := u3 _ _ hbj
  replace hch := u3 _ _ hch
  rw [hsz]
  clear u3 hsz q1
  generalize w2.alloc (.cells #[.int .u64 0, .int .u32 0] 54) = w3 at *
  walk_nrm
  obtain ⟨Y, hY⟩ : ∃ Y, Y = (fun bq aq kq cq => To Try.prog (N + 5) (N + 1) Tg (G (Frame.at bq aq kq) cq) w3) := ⟨_, rfl⟩
  obtain ⟨Z, hZ⟩ : ∃ Z, Z = (fun bq aq kq cq => To Try.prog (N + 5) (N + 1) Tg (G { Frame.at bq aq kq with mode := .returning } cq) w3) := ⟨_, rfl⟩
  have S : Sil Try.prog true (Is w3) Y Z := by rw [hY, hZ]; exact sil_to w3
  suffices h : Y _ _ _ _ by rw [hY] at h; exact h
  repeat (first
    | refine sl_done S ?_
    | refine sl_seq S ?_
    | refine sl_skip S ?_
    | (co_apply sl_region S (by simp only [List.size_toArray, List.length_cons, List.length_nil, Nat.reduceAdd, Nat.zero_add, List.range, List.range.loop]; exact rfl))
    | refine sl_true S rfl ?_
    | refine sl_false S rfl ?_
    | refine sl_ret S ?_
    | refine sl_block S ?_
    | refine sl_loop S ?_
    | refine sl_inBlock S ?_
    | (refine sl_exit S (k' := _) rfl ?_)
    | refine sl_end S ?_
    | (co_apply sl_off S rfl rfl; (focus (walk_nrm; exact rfl)))
    | (co_apply sl_op S rfl rfl (by k_ne); (focus (intro W _ K hK; go_simp; (try w_num); exact hK)); (focus (intro W _; simp [go_sem, *])); (focus (walk_nrm; exact rfl))))
  rw [hY]
  exact hk w3 _ ⟨u1, ⟨td, hbd⟩, ⟨co, hob, hos⟩, ⟨tb, hbo⟩, ⟨_, _, hch⟩, ⟨tj, hbj⟩, u2⟩ ⟨rfl, rfl, rfl, rfl, rfl, rfl, rfl⟩
end
end Go.Proofs.Ytebgcemglicjiaa
