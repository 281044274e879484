/- (*sync.WaitGroup).Done, as a hand's deferred call, beside others that make memory. Printed by gen_cwc.py. No condition of ours. -/
import Derived.Test.YtebgcemglicjiaaCwS
import Derived.Conc.CompanyWords
namespace Go.Proofs.Ytebgcemglicjiaa
open Go.Conc Go.RowKit Go.Conc.Lib Go.ConcR.Gen Go.ConcN.Gen
open Go.ConcN (ShN WgLive)
open Go.ConcR (KK WgAt stA smA rd wr mk DC0)
variable {L : WgLink}
theorem quit_enable {P : Program} (H : WgLib P L) {b : Frame} {a : Act} {todo : List Item} {cs : List Frame} {ds : List Deferred} (hd : a.defers = dcall L.enable #[] :: ds) (h : Quit P 0 (G { b.at ⟨a.tmps, ds⟩ todo with mode := .returning } cs)) :
    Quit P 1 (G { b.at a todo with mode := .returning } cs) :=
  let ⟨q, hq⟩ := h
  ⟨q + 1, QuitsD.unwind_mark .enable rfl (by simp) hd H.f_enable (x_enable_n L) (x_enable_b L) (x_enable_x L) (x_enable_f L) (by simp only [deafBehind_enable1]; exact hq)⟩
theorem quit_leave0 {P : Program} {b b₀ : Frame} {a a₀ : Act} {todo k : List Item} {cs : List Frame} {fn : Func} {ops : Array Oper} {i : Nat} {rest : List Nat} (hn : b.kind = .normal) (hd : a.defers = []) (hf : P.funcs[b.fn]? = some fn) (hr : fn.results = #[])
    (h : Quit P 0 (G (b₀.at (a₀.put ((ops[i]?).bind (·.dst)) (.tuple #[])) (.inRegion ops rest :: k)) cs)) : Quit P 0 (G { b.at a todo with mode := .returning } (b₀.at a₀ (.inRegion ops (i :: rest) :: k) :: cs)) :=
  let ⟨q, hq⟩ := h
  ⟨q + 1, QuitsD.leave0 hn hd hf hr hq⟩
theorem quit_leaveD {P : Program} {b b₀ : Frame} {a a₀ : Act} {todo todo' : List Item} {cs : List Frame} {fn : Func} (hn : b.kind = .deferred) (hd : a.defers = []) (hf : P.funcs[b.fn]? = some fn) (hr : fn.results = #[])
    (h : Quit P 0 (G { b₀.at a₀ todo' with mode := .returning } cs)) : Quit P 0 (G { b.at a todo with mode := .returning } ({ b₀.at a₀ todo' with mode := .returning } :: cs)) :=
  let ⟨q, hq⟩ := h
  ⟨q + 1, QuitsD.leaveD hn hd hf hr rfl hq⟩
theorem quit_done {P : Program} {b : Frame} {a : Act} {cs : List Frame} {ops : Array Oper} (_ : b.mode = b.mode) (h : Quit P 0 (G { b.at a [] with mode := .returning } cs)) : Quit P 0 (G (b.at a [.inRegion ops []]) cs) :=
  let ⟨q, hq⟩ := h
  ⟨q + 1 + 1, QuitsD.ctl rfl (fun _ => stepG_region_end) (QuitsD.ctl rfl (fun _ => stepG_end) hq)⟩
set_option maxRecDepth 100000 in
set_option maxHeartbeats 8000000 in
theorem add_neg {P : Program} (H : WgLib P L) {Wg N : Nat} {b₀ : Frame} {a₀ : Act} {ops₀ : Array Oper} {i₀ : Nat} {rest₀ : List Nat} {k₀ : List Item} {cs : List Frame}
    (hT : Quit P 0 (G (b₀.at (a₀.put ((ops₀[i₀]?).bind (·.dst)) (.tuple #[])) (.inRegion ops₀ rest₀ :: k₀)) cs)) (w : World) (hK : Fct L.tWg Wg N w) :
    Go1 P false (RM L.tWg Wg) DC0 (LR0 P L.tWg Wg) w (G ((base L.add).at ⟨#[.pointer (some ⟨Wg, 0, none⟩), .int .i64 (-1), undef, undef, undef, undef, undef, undef, undef, undef, undef, undef, undef, undef, undef, undef, undef, undef, undef, undef, undef, undef, undef, undef, undef, undef, undef, undef, undef, undef, undef, undef, undef, undef, undef, undef, undef, undef, undef, undef, undef, undef, undef, undef, undef, undef, undef, undef, undef, undef, undef, undef, undef, undef, undef, undef, undef, undef, undef, undef, undef, undef, undef, undef, undef, undef, undef, undef, undef, undef, undef, undef, undef, undef, undef, undef, undef, undef, undef, undef, undef, undef, undef, undef, undef, undef, undef, undef, undef, undef, undef, undef, undef, undef, undef, undef, undef, undef, undef, undef, undef, undef, undef, undef, undef, undef, undef, undef, undef, undef, undef, undef, undef, undef, undef, undef, undef], []⟩ [.code (body_add L)]) (b₀.at a₀ (.inRegion ops₀ (i₀ :: rest₀) :: k₀) :: cs)) := by
  lib_facts
  simp only [body_add, addFn, Option.getD_some]
  obtain ⟨Y, hY⟩ : ∃ Y, Y = (fun bq aq kq cq => Go1 P false (RM L.tWg Wg) DC0 (LR0 P L.tWg Wg) w (G (Frame.at bq aq kq) cq)) := ⟨_, rfl⟩
  obtain ⟨Z, hZ⟩ : ∃ Z, Z = (fun bq aq kq cq => Go1 P false (RM L.tWg Wg) DC0 (LR0 P L.tWg Wg) w (G { Frame.at bq aq kq with mode := .returning } cq)) := ⟨_, rfl⟩
  have S : Sil P false ((RM L.tWg Wg) w) Y Z := by rw [hY, hZ]; exact sil_goes (P := P) (main := false) (R := (RM L.tWg Wg)) (D := DC0) (Stop := (LR0 P L.tWg Wg)) (fun _ _ _ h g => h.trans g) (fun _ => ⟨rfl, rfl⟩) w
  suffices h : Y _ _ _ _ by rw [hY] at h; exact h
  repeat (first
    | refine sl_done S ?_
    | refine sl_seq S ?_
    | refine sl_skip S ?_
    | (co_apply sl_region S (by simp only [List.size_toArray, List.length_cons, List.length_nil, Nat.reduceAdd, Nat.zero_add, List.range, List.range.loop]; exact rfl))
    | refine sl_true S rfl ?_
    | refine sl_false S rfl ?_
    | refine sl_ret S ?_
    | refine sl_block S ?_
    | refine sl_loop S ?_
    | refine sl_inBlock S ?_
    | refine sl_inLoop S ?_
    | (refine sl_exit S (k' := _) rfl ?_)
    | refine sl_end S ?_
    | (co_apply sl_off S rfl rfl; (focus (walk_nrm; exact rfl)))
    | (co_apply sl_defer S rfl rfl (by k_ne) rfl; (focus (walk_nrm; exact rfl)))
    | (co_apply sl_call S rfl rfl (by k_ne) rfl H.f_uAdd (nm_uAdd L) rfl; (focus (walk_nrmf uAddFn; exact rfl)))
    | (co_apply sl_call S rfl rfl (by k_ne) rfl H.f_uLoad (nm_uLoad L) rfl; (focus (walk_nrmf uLoadFn; exact rfl)))
    | (co_apply sl_call S rfl rfl (by k_ne) rfl H.f_uStore (nm_uStore L) rfl; (focus (walk_nrmf uStoreFn; exact rfl)))
    | (co_apply sl_call S rfl rfl (by k_ne) rfl H.f_uCas (nm_uCas L) rfl; (focus (walk_nrmf uCasFn; exact rfl)))
    | (co_apply sl_entry S (.bool false) rfl rfl (by k_ne) rfl H.f_inBubble (x_inBubble_n L) (x_inBubble_b L) (x_inBubble_x L) (x_inBubble_f L); (focus (walk_nrm; exact rfl)))
    | (co_apply sl_leave1 S rfl rfl H.f_uAdd rfl; (focus (walk_nrm; exact rfl)))
    | (co_apply sl_leave1 S rfl rfl H.f_uLoad rfl; (focus (walk_nrm; exact rfl)))
    | (co_apply sl_leave1 S rfl rfl H.f_uCas rfl; (focus (walk_nrm; exact rfl)))
    | (co_apply sl_leave0 S rfl rfl H.f_uStore rfl; (focus (walk_nrm; exact rfl)))
    | (co_apply sl_op S rfl rfl (by k_ne); (focus (intro W _ K hK; go_simp; (try w_num); exact hK)); (focus (intro W _; simp [go_sem, *])); (focus (walk_nrm; exact rfl))))
  co_apply sl_conv S rfl rfl (by k_ne) rfl rfl H.underlying_tWgP H.underlying_tUP H.room_tWg (fun w₁ r => Fct.cell0 (fct_rely hK r))
  · walk_nrm; exact rfl
  rw [hY]
  refine ⟨0, fun w₁ h₁ => ?_⟩
  clear hY hZ S Y Z
  replace hK := fct_rely hK h₁
  clear h₁
  refine ⟨rfl, _, stepG_markAt .releaseMerge (by simp) rfl rfl (by k_ne) rfl H.f_relMerge (x_relMerge_n L) (x_relMerge_b L) (x_relMerge_x L) (x_relMerge_f L) (by simp [Act.eval, stA]), ?_⟩
  walk_nrm
  obtain ⟨Y, hY⟩ : ∃ Y, Y = (fun bq aq kq cq => Go1 P false (RM L.tWg Wg) DC0 (LK1 P L.tWg Wg) w₁ (G (Frame.at bq aq kq) cq)) := ⟨_, rfl⟩
  obtain ⟨Z, hZ⟩ : ∃ Z, Z = (fun bq aq kq cq => Go1 P false (RM L.tWg Wg) DC0 (LK1 P L.tWg Wg) w₁ (G { Frame.at bq aq kq with mode := .returning } cq)) := ⟨_, rfl⟩
  have S : Sil P false ((RM L.tWg Wg) w₁) Y Z := by rw [hY, hZ]; exact sil_goes (P := P) (main := false) (R := (RM L.tWg Wg)) (D := DC0) (Stop := (LK1 P L.tWg Wg)) (fun _ _ _ h g => h.trans g) (fun _ => ⟨rfl, rfl⟩) w₁
  suffices h : Y _ _ _ _ by rw [hY] at h; exact h
  repeat (first
    | refine sl_done S ?_
    | refine sl_seq S ?_
    | refine sl_skip S ?_
    | (co_apply sl_region S (by simp only [List.size_toArray, List.length_cons, List.length_nil, Nat.zero_add, List.range, List.range.loop]; exact rfl))
    | refine sl_true S rfl ?_
    | refine sl_false S rfl ?_
    | refine sl_ret S ?_
    | refine sl_block S ?_
    | refine sl_loop S ?_
    | refine sl_inBlock S ?_
    | refine sl_inLoop S ?_
    | (refine sl_exit S (k' := _) rfl ?_)
    | refine sl_end S ?_
    | (co_apply sl_off S rfl rfl; (focus (walk_nrm; exact rfl)))
    | (co_apply sl_defer S rfl rfl (by k_ne) rfl; (focus (walk_nrm; exact rfl)))
    | (co_apply sl_call S rfl rfl (by k_ne) rfl H.f_uAdd (nm_uAdd L) rfl; (focus (walk_nrmf uAddFn; exact rfl)))
    | (co_apply sl_call S rfl rfl (by k_ne) rfl H.f_uLoad (nm_uLoad L) rfl; (focus (walk_nrmf uLoadFn; exact rfl)))
    | (co_apply sl_call S rfl rfl (by k_ne) rfl H.f_uStore (nm_uStore L) rfl; (focus (walk_nrmf uStoreFn; exact rfl)))
    | (co_apply sl_call S rfl rfl (by k_ne) rfl H.f_uCas (nm_uCas L) rfl; (focus (walk_nrmf uCasFn; exact rfl)))
    | (co_apply sl_entry S (.bool false) rfl rfl (by k_ne) rfl H.f_inBubble (x_inBubble_n L) (x_inBubble_b L) (x_inBubble_x L) (x_inBubble_f L); (focus (walk_nrm; exact rfl)))
    | (co_apply sl_leave1 S rfl rfl H.f_uAdd rfl; (focus (walk_nrm; exact rfl)))
    | (co_apply sl_leave1 S rfl rfl H.f_uLoad rfl; (focus (walk_nrm; exact rfl)))
    | (co_apply sl_leave1 S rfl rfl H.f_uCas rfl; (focus (walk_nrm; exact rfl)))
    | (co_apply sl_leave0 S rfl rfl H.f_uStore rfl; (focus (walk_nrm; exact rfl)))
    | (co_apply sl_op S rfl rfl (by k_ne); (focus (intro W _ K hK; go_simp; (try w_num); exact hK)); (focus (intro W _; simp [go_sem, *])); (focus (walk_nrm; exact rfl))))
  rw [hY]
  refine ⟨0, fun w₂ h₁ => ?_⟩
  clear hY hZ S Y Z
  replace hK := fct_rely hK h₁
  clear h₁
  refine ⟨rfl, _, stepG_mark0 .disable (by simp) rfl rfl (by k_ne) rfl H.f_disable (x_disable_n L) (x_disable_b L) (x_disable_x L) (x_disable_f L), ?_⟩
  walk_nrm
  obtain ⟨Y, hY⟩ : ∃ Y, Y = (fun bq aq kq cq => Go1 P false (RM L.tWg Wg) DC0 (LD1 P L.tWg Wg) w₂ (G (Frame.at bq aq kq) cq)) := ⟨_, rfl⟩
  obtain ⟨Z, hZ⟩ : ∃ Z, Z = (fun bq aq kq cq => Go1 P false (RM L.tWg Wg) DC0 (LD1 P L.tWg Wg) w₂ (G { Frame.at bq aq kq with mode := .returning } cq)) := ⟨_, rfl⟩
  have S : Sil P false ((RM L.tWg Wg) w₂) Y Z := by rw [hY, hZ]; exact sil_goes (P := P) (main := false) (R := (RM L.tWg Wg)) (D := DC0) (Stop := (LD1 P L.tWg Wg)) (fun _ _ _ h g => h.trans g) (fun _ => ⟨rfl, rfl⟩) w₂
  suffices h : Y _ _ _ _ by rw [hY] at h; exact h
  repeat (first
    | refine sl_done S ?_
    | refine sl_seq S ?_
    | refine sl_skip S ?_
    | (co_apply sl_region S (by simp only [List.size_toArray, List.length_cons, List.length_nil, Nat.reduceAdd, Nat.zero_add, List.range, List.range.loop]; exact rfl))
    | refine sl_true S rfl ?_
    | refine sl_false S rfl ?_
    | refine sl_ret S ?_
    | refine sl_block S ?_
    | refine sl_loop S ?_
    | refine sl_inBlock S ?_
    | refine sl_inLoop S ?_
    | (refine sl_exit S (k' := _) rfl ?_)
    | refine sl_end S ?_
    | (co_apply sl_off S rfl rfl; (focus (walk_nrm; exact rfl)))
    | (co_apply sl_defer S rfl rfl (by k_ne) rfl; (focus (walk_nrm; exact rfl)))
    | (co_apply sl_call S rfl rfl (by k_ne) rfl H.f_uAdd (nm_uAdd L) rfl; (focus (walk_nrmf uAddFn; exact rfl)))
    | (co_apply sl_call S rfl rfl (by k_ne) rfl H.f_uLoad (nm_uLoad L) rfl; (focus (walk_nrmf uLoadFn; exact rfl)))
    | (co_apply sl_call S rfl rfl (by k_ne) rfl H.f_uStore (nm_uStore L) rfl; (focus (walk_nrmf uStoreFn; exact rfl)))
    | (co_apply sl_call S rfl rfl (by k_ne) rfl H.f_uCas (nm_uCas L) rfl; (focus (walk_nrmf uCasFn; exact rfl)))
    | (co_apply sl_entry S (.bool false) rfl rfl (by k_ne) rfl H.f_inBubble (x_inBubble_n L) (x_inBubble_b L) (x_inBubble_x L) (x_inBubble_f L); (focus (walk_nrm; exact rfl)))
    | (co_apply sl_leave1 S rfl rfl H.f_uAdd rfl; (focus (walk_nrm; exact rfl)))
    | (co_apply sl_leave1 S rfl rfl H.f_uLoad rfl; (focus (walk_nrm; exact rfl)))
    | (co_apply sl_leave1 S rfl rfl H.f_uCas rfl; (focus (walk_nrm; exact rfl)))
    | (co_apply sl_leave0 S rfl rfl H.f_uStore rfl; (focus (walk_nrm; exact rfl)))
    | (co_apply sl_op S rfl rfl (by k_ne); (focus (intro W _ K hK; go_simp; (try w_num); exact hK)); (focus (intro W _; simp [go_sem, *])); (focus (walk_nrm; exact rfl))))
  rw [hY]
  refine ⟨0, fun w₃ h₁ => ?_⟩
  clear hY hZ S Y Z
  replace hK := fct_rely hK h₁
  clear h₁
  refine ⟨rfl, fun v wt hwt hv hw => ?_⟩
  have e0 : IntKind.u64.wrap (KK + 18446744069414584320) = 0 := by decide
  have e1 : IntKind.u64.wrap (KK + 1 + 18446744069414584320) = 1 := by decide
  rcases Nat.eq_zero_or_pos v with rfl | hvp <;> (obtain rfl | rfl : wt = 0 ∨ wt = 1 := by omega)
  · -- nobody is counted and nobody waits
    replace hw : WgAt L.tWg Wg w₃ KK 0 := by simpa using hw
    have z : ((0 : Nat) : Int) * KK + ((0 : Nat) : Int) = 0 := by simp
    rw [z]
    refine ⟨_, (stepG_add_atomic rfl rfl (by k_ne) rfl H.f_addU64 (x_addU64_n L) (x_addU64_b L) (x_addU64_x L) .u64 (x_addU64_f L) rfl rfl hw.cellSt (hw.thaw 0)).trans (by rw [e0]; rfl), fun hl => absurd hl.2 (by decide), fun _ => ?_⟩
    clear hw
    walk_nrm
    obtain ⟨Y, hY⟩ : ∃ Y, Y = (fun b a k cs => Quit P 1 (G (Frame.at b a k) cs)) := ⟨_, rfl⟩
    obtain ⟨Z, hZ⟩ : ∃ Z, Z = (fun b a k cs => Quit P 1 (G { Frame.at b a k with mode := .returning } cs)) := ⟨_, rfl⟩
    have S : Sil P false (fun _ => True) Y Z := by rw [hY, hZ]; exact sil_quits 1
    suffices h : Y _ _ _ _ by rw [hY] at h; exact h
    repeat (first
      | refine sl_done S ?_
      | refine sl_seq S ?_
      | refine sl_skip S ?_
      | (co_apply sl_region S (by simp only [List.size_toArray, List.length_cons, List.length_nil, Nat.reduceAdd, Nat.zero_add, List.range, List.range.loop]; exact rfl))
      | refine sl_true S rfl ?_
      | refine sl_false S rfl ?_
      | refine sl_ret S ?_
      | refine sl_block S ?_
      | refine sl_loop S ?_
      | refine sl_inBlock S ?_
      | refine sl_inLoop S ?_
      | (refine sl_exit S (k' := _) rfl ?_)
      | refine sl_end S ?_
      | (co_apply sl_off S rfl rfl; (focus (walk_nrm; exact rfl)))
      | (co_apply sl_defer S rfl rfl (by k_ne) rfl; (focus (walk_nrm; exact rfl)))
      | (co_apply sl_call S rfl rfl (by k_ne) rfl H.f_uAdd (nm_uAdd L) rfl; (focus (walk_nrmf uAddFn; exact rfl)))
      | (co_apply sl_call S rfl rfl (by k_ne) rfl H.f_uLoad (nm_uLoad L) rfl; (focus (walk_nrmf uLoadFn; exact rfl)))
      | (co_apply sl_call S rfl rfl (by k_ne) rfl H.f_uStore (nm_uStore L) rfl; (focus (walk_nrmf uStoreFn; exact rfl)))
      | (co_apply sl_call S rfl rfl (by k_ne) rfl H.f_uCas (nm_uCas L) rfl; (focus (walk_nrmf uCasFn; exact rfl)))
      | (co_apply sl_entry S (.bool false) rfl rfl (by k_ne) rfl H.f_inBubble (x_inBubble_n L) (x_inBubble_b L) (x_inBubble_x L) (x_inBubble_f L); (focus (walk_nrm; exact rfl)))
      | (co_apply sl_leave1 S rfl rfl H.f_uAdd rfl; (focus (walk_nrm; exact rfl)))
      | (co_apply sl_leave1 S rfl rfl H.f_uLoad rfl; (focus (walk_nrm; exact rfl)))
      | (co_apply sl_leave1 S rfl rfl H.f_uCas rfl; (focus (walk_nrm; exact rfl)))
      | (co_apply sl_leave0 S rfl rfl H.f_uStore rfl; (focus (walk_nrm; exact rfl)))
      | (co_apply sl_op S rfl rfl (by k_ne); (focus (intro W _ K hK; go_simp; (try w_num); exact hK)); (focus (intro W _; simp [go_sem, *])); (focus (walk_nrm; exact rfl))))
    rw [hZ]
    exact quit_enable H rfl (quit_leave0 rfl rfl H.f_add rfl hT)

  · -- nobody is counted and the starter waits: the last one
    replace hw : WgAt L.tWg Wg w₃ (KK + 1) 0 := by simpa using hw
    have z : ((0 : Nat) : Int) * KK + ((1 : Nat) : Int) = 1 := by simp
    rw [z]
    refine ⟨_, (stepG_add_atomic rfl rfl (by k_ne) rfl H.f_addU64 (x_addU64_n L) (x_addU64_b L) (x_addU64_x L) .u64 (x_addU64_f L) rfl rfl hw.cellSt (hw.thaw 0)).trans (by rw [e1]; rfl), fun _ => ?_, fun hl => absurd ⟨rfl, rfl⟩ hl⟩
    replace hK := hK.set _ _ (hw.setSt 1)
    clear hw
    generalize w₃.setCell (stA Wg) (.int .u64 1) = w₄ at hK ⊢
    walk_nrm
    obtain ⟨Y, hY⟩ : ∃ Y, Y = (fun bq aq kq cq => Go1 P false (RM L.tWg Wg) DC0 (LD2 P L.tWg Wg) w₄ (G (Frame.at bq aq kq) cq)) := ⟨_, rfl⟩
    obtain ⟨Z, hZ⟩ : ∃ Z, Z = (fun bq aq kq cq => Go1 P false (RM L.tWg Wg) DC0 (LD2 P L.tWg Wg) w₄ (G { Frame.at bq aq kq with mode := .returning } cq)) := ⟨_, rfl⟩
    have S : Sil P false ((RM L.tWg Wg) w₄) Y Z := by rw [hY, hZ]; exact sil_goes (P := P) (main := false) (R := (RM L.tWg Wg)) (D := DC0) (Stop := (LD2 P L.tWg Wg)) (fun _ _ _ h g => h.trans g) (fun _ => ⟨rfl, rfl⟩) w₄
    suffices h : Y _ _ _ _ by rw [hY] at h; exact h
    repeat (first
      | refine sl_done S ?_
      | refine sl_seq S ?_
      | refine sl_skip S ?_
      | (co_apply sl_region S (by simp only [List.size_toArray, List.length_cons, List.length_nil, Nat.reduceAdd, Nat.zero_add, List.range, List.range.loop]; exact rfl))
      | refine sl_true S rfl ?_
      | refine sl_false S rfl ?_
      | refine sl_ret S ?_
      | refine sl_block S ?_
      | refine sl_loop S ?_
      | refine sl_inBlock S ?_
      | refine sl_inLoop S ?_
      | (refine sl_exit S (k' := _) rfl ?_)
      | refine sl_end S ?_
      | (co_apply sl_off S rfl rfl; (focus (walk_nrm; exact rfl)))
      | (co_apply sl_defer S rfl rfl (by k_ne) rfl; (focus (walk_nrm; exact rfl)))
      | (co_apply sl_call S rfl rfl (by k_ne) rfl H.f_uAdd (nm_uAdd L) rfl; (focus (walk_nrmf uAddFn; exact rfl)))
      | (co_apply sl_call S rfl rfl (by k_ne) rfl H.f_uLoad (nm_uLoad L) rfl; (focus (walk_nrmf uLoadFn; exact rfl)))
      | (co_apply sl_call S rfl rfl (by k_ne) rfl H.f_uStore (nm_uStore L) rfl; (focus (walk_nrmf uStoreFn; exact rfl)))
      | (co_apply sl_call S rfl rfl (by k_ne) rfl H.f_uCas (nm_uCas L) rfl; (focus (walk_nrmf uCasFn; exact rfl)))
      | (co_apply sl_entry S (.bool false) rfl rfl (by k_ne) rfl H.f_inBubble (x_inBubble_n L) (x_inBubble_b L) (x_inBubble_x L) (x_inBubble_f L); (focus (walk_nrm; exact rfl)))
      | (co_apply sl_leave1 S rfl rfl H.f_uAdd rfl; (focus (walk_nrm; exact rfl)))
      | (co_apply sl_leave1 S rfl rfl H.f_uLoad rfl; (focus (walk_nrm; exact rfl)))
      | (co_apply sl_leave1 S rfl rfl H.f_uCas rfl; (focus (walk_nrm; exact rfl)))
      | (co_apply sl_leave0 S rfl rfl H.f_uStore rfl; (focus (walk_nrm; exact rfl)))
      | (co_apply sl_op S rfl rfl (by k_ne); (focus (intro W _ K hK; go_simp; (try w_num); exact hK)); (focus (intro W _; simp [go_sem, *])); (focus (walk_nrm; exact rfl))))
    rw [hY]
    refine ⟨0, fun w₅ h₁ => ?_⟩
    clear hY hZ S Y Z
    replace hK := fct_rely hK h₁
    clear h₁
    refine ⟨rfl, fun hw => ⟨_, stepG_load_atomic rfl rfl (by k_ne) rfl H.f_loadU64 (x_loadU64_n L) (x_loadU64_b L) (x_loadU64_x L) .u64 (x_loadU64_f L) rfl hw.cellSt, ?_⟩⟩
    clear hw
    walk_nrm
    obtain ⟨Y, hY⟩ : ∃ Y, Y = (fun bq aq kq cq => Go1 P false (RM L.tWg Wg) DC0 (LD3 P L.tWg Wg) w₅ (G (Frame.at bq aq kq) cq)) := ⟨_, rfl⟩
    obtain ⟨Z, hZ⟩ : ∃ Z, Z = (fun bq aq kq cq => Go1 P false (RM L.tWg Wg) DC0 (LD3 P L.tWg Wg) w₅ (G { Frame.at bq aq kq with mode := .returning } cq)) := ⟨_, rfl⟩
    have S : Sil P false ((RM L.tWg Wg) w₅) Y Z := by rw [hY, hZ]; exact sil_goes (P := P) (main := false) (R := (RM L.tWg Wg)) (D := DC0) (Stop := (LD3 P L.tWg Wg)) (fun _ _ _ h g => h.trans g) (fun _ => ⟨rfl, rfl⟩) w₅
    suffices h : Y _ _ _ _ by rw [hY] at h; exact h
    repeat (first
      | refine sl_done S ?_
      | refine sl_seq S ?_
      | refine sl_skip S ?_
      | (co_apply sl_region S (by simp only [List.size_toArray, List.length_cons, List.length_nil, Nat.reduceAdd, Nat.zero_add, List.range, List.range.loop]; exact rfl))
      | refine sl_true S rfl ?_
      | refine sl_false S rfl ?_
      | refine sl_ret S ?_
      | refine sl_block S ?_
      | refine sl_loop S ?_
      | refine sl_inBlock S ?_
      | refine sl_inLoop S ?_
      | (refine sl_exit S (k' := _) rfl ?_)
      | refine sl_end S ?_
      | (co_apply sl_off S rfl rfl; (focus (walk_nrm; exact rfl)))
      | (co_apply sl_defer S rfl rfl (by k_ne) rfl; (focus (walk_nrm; exact rfl)))
      | (co_apply sl_call S rfl rfl (by k_ne) rfl H.f_uAdd (nm_uAdd L) rfl; (focus (walk_nrmf uAddFn; exact rfl)))
      | (co_apply sl_call S rfl rfl (by k_ne) rfl H.f_uLoad (nm_uLoad L) rfl; (focus (walk_nrmf uLoadFn; exact rfl)))
      | (co_apply sl_call S rfl rfl (by k_ne) rfl H.f_uStore (nm_uStore L) rfl; (focus (walk_nrmf uStoreFn; exact rfl)))
      | (co_apply sl_call S rfl rfl (by k_ne) rfl H.f_uCas (nm_uCas L) rfl; (focus (walk_nrmf uCasFn; exact rfl)))
      | (co_apply sl_entry S (.bool false) rfl rfl (by k_ne) rfl H.f_inBubble (x_inBubble_n L) (x_inBubble_b L) (x_inBubble_x L) (x_inBubble_f L); (focus (walk_nrm; exact rfl)))
      | (co_apply sl_leave1 S rfl rfl H.f_uAdd rfl; (focus (walk_nrm; exact rfl)))
      | (co_apply sl_leave1 S rfl rfl H.f_uLoad rfl; (focus (walk_nrm; exact rfl)))
      | (co_apply sl_leave1 S rfl rfl H.f_uCas rfl; (focus (walk_nrm; exact rfl)))
      | (co_apply sl_leave0 S rfl rfl H.f_uStore rfl; (focus (walk_nrm; exact rfl)))
      | (co_apply sl_op S rfl rfl (by k_ne); (focus (intro W _ K hK; go_simp; (try w_num); exact hK)); (focus (intro W _; simp [go_sem, *])); (focus (walk_nrm; exact rfl))))
    rw [hY]
    refine ⟨0, fun w₆ h₁ => ?_⟩
    clear hY hZ S Y Z
    replace hK := fct_rely hK h₁
    clear h₁
    refine ⟨rfl, fun hw => ⟨_, stepG_store_atomic rfl rfl (by k_ne) rfl H.f_storeU64 (x_storeU64_n L) (x_storeU64_b L) (x_storeU64_x L) (x_storeU64_f L) rfl rfl hw.cellSt (hw.thaw 0), ?_⟩⟩
    replace hK := hK.set _ _ (hw.setSt 0)
    clear hw
    generalize w₆.setCell (stA Wg) (.int .u64 0) = w₇ at hK ⊢
    walk_nrm
    obtain ⟨Y, hY⟩ : ∃ Y, Y = (fun bq aq kq cq => Go1 P false (RM L.tWg Wg) DC0 (LD4 P L.tWg Wg) w₇ (G (Frame.at bq aq kq) cq)) := ⟨_, rfl⟩
    obtain ⟨Z, hZ⟩ : ∃ Z, Z = (fun bq aq kq cq => Go1 P false (RM L.tWg Wg) DC0 (LD4 P L.tWg Wg) w₇ (G { Frame.at bq aq kq with mode := .returning } cq)) := ⟨_, rfl⟩
    have S : Sil P false ((RM L.tWg Wg) w₇) Y Z := by rw [hY, hZ]; exact sil_goes (P := P) (main := false) (R := (RM L.tWg Wg)) (D := DC0) (Stop := (LD4 P L.tWg Wg)) (fun _ _ _ h g => h.trans g) (fun _ => ⟨rfl, rfl⟩) w₇
    suffices h : Y _ _ _ _ by rw [hY] at h; exact h
    repeat (first
      | refine sl_done S ?_
      | refine sl_seq S ?_
      | refine sl_skip S ?_
      | (co_apply sl_region S (by simp only [List.size_toArray, List.length_cons, List.length_nil, Nat.reduceAdd, Nat.zero_add, List.range, List.range.loop]; exact rfl))
      | refine sl_true S rfl ?_
      | refine sl_false S rfl ?_
      | refine sl_ret S ?_
      | refine sl_block S ?_
      | refine sl_loop S ?_
      | refine sl_inBlock S ?_
      | refine sl_inLoop S ?_
      | (refine sl_exit S (k' := _) rfl ?_)
      | refine sl_end S ?_
      | (co_apply sl_off S rfl rfl; (focus (walk_nrm; exact rfl)))
      | (co_apply sl_defer S rfl rfl (by k_ne) rfl; (focus (walk_nrm; exact rfl)))
      | (co_apply sl_call S rfl rfl (by k_ne) rfl H.f_uAdd (nm_uAdd L) rfl; (focus (walk_nrmf uAddFn; exact rfl)))
      | (co_apply sl_call S rfl rfl (by k_ne) rfl H.f_uLoad (nm_uLoad L) rfl; (focus (walk_nrmf uLoadFn; exact rfl)))
      | (co_apply sl_call S rfl rfl (by k_ne) rfl H.f_uStore (nm_uStore L) rfl; (focus (walk_nrmf uStoreFn; exact rfl)))
      | (co_apply sl_call S rfl rfl (by k_ne) rfl H.f_uCas (nm_uCas L) rfl; (focus (walk_nrmf uCasFn; exact rfl)))
      | (co_apply sl_entry S (.bool false) rfl rfl (by k_ne) rfl H.f_inBubble (x_inBubble_n L) (x_inBubble_b L) (x_inBubble_x L) (x_inBubble_f L); (focus (walk_nrm; exact rfl)))
      | (co_apply sl_leave1 S rfl rfl H.f_uAdd rfl; (focus (walk_nrm; exact rfl)))
      | (co_apply sl_leave1 S rfl rfl H.f_uLoad rfl; (focus (walk_nrm; exact rfl)))
      | (co_apply sl_leave1 S rfl rfl H.f_uCas rfl; (focus (walk_nrm; exact rfl)))
      | (co_apply sl_leave0 S rfl rfl H.f_uStore rfl; (focus (walk_nrm; exact rfl)))
      | (co_apply sl_op S rfl rfl (by k_ne); (focus (intro W _ K hK; go_simp; (try w_num); exact hK)); (focus (intro W _; simp [go_sem, *])); (focus (walk_nrm; exact rfl))))
    rw [hY]
    refine ⟨0, fun w₈ h₁ => ?_⟩
    clear hY hZ S Y Z
    replace hK := fct_rely hK h₁
    clear h₁
    refine ⟨rfl, mayWake_entry rfl rfl H.f_semrelease (x_semrelease_b L), fun hw => ⟨_, (stepG_semrelease rfl rfl (by k_ne) rfl H.f_semrelease (x_semrelease_n L) (x_semrelease_b L) (x_semrelease_x L) (x_semrelease_f L) (by simp [Act.eval, smA]) hw.cellSm (hw.thaw 1)).trans (by rfl), ?_⟩⟩
    clear hw
    walk_nrm
    obtain ⟨Y, hY⟩ : ∃ Y, Y = (fun b a k cs => Quit P 1 (G (Frame.at b a k) cs)) := ⟨_, rfl⟩
    obtain ⟨Z, hZ⟩ : ∃ Z, Z = (fun b a k cs => Quit P 1 (G { Frame.at b a k with mode := .returning } cs)) := ⟨_, rfl⟩
    have S : Sil P false (fun _ => True) Y Z := by rw [hY, hZ]; exact sil_quits 1
    suffices h : Y _ _ _ _ by rw [hY] at h; exact h
    repeat (first
      | refine sl_done S ?_
      | refine sl_seq S ?_
      | refine sl_skip S ?_
      | (co_apply sl_region S (by simp only [List.size_toArray, List.length_cons, List.length_nil, Nat.reduceAdd, Nat.zero_add, List.range, List.range.loop]; exact rfl))
      | refine sl_true S rfl ?_
      | refine sl_false S rfl ?_
      | refine sl_ret S ?_
      | refine sl_block S ?_
      | refine sl_loop S ?_
      | refine sl_inBlock S ?_
      | refine sl_inLoop S ?_
      | (refine sl_exit S (k' := _) rfl ?_)
      | refine sl_end S ?_
      | (co_apply sl_off S rfl rfl; (focus (walk_nrm; exact rfl)))
      | (co_apply sl_defer S rfl rfl (by k_ne) rfl; (focus (walk_nrm; exact rfl)))
      | (co_apply sl_call S rfl rfl (by k_ne) rfl H.f_uAdd (nm_uAdd L) rfl; (focus (walk_nrmf uAddFn; exact rfl)))
      | (co_apply sl_call S rfl rfl (by k_ne) rfl H.f_uLoad (nm_uLoad L) rfl; (focus (walk_nrmf uLoadFn; exact rfl)))
      | (co_apply sl_call S rfl rfl (by k_ne) rfl H.f_uStore (nm_uStore L) rfl; (focus (walk_nrmf uStoreFn; exact rfl)))
      | (co_apply sl_call S rfl rfl (by k_ne) rfl H.f_uCas (nm_uCas L) rfl; (focus (walk_nrmf uCasFn; exact rfl)))
      | (co_apply sl_entry S (.bool false) rfl rfl (by k_ne) rfl H.f_inBubble (x_inBubble_n L) (x_inBubble_b L) (x_inBubble_x L) (x_inBubble_f L); (focus (walk_nrm; exact rfl)))
      | (co_apply sl_leave1 S rfl rfl H.f_uAdd rfl; (focus (walk_nrm; exact rfl)))
      | (co_apply sl_leave1 S rfl rfl H.f_uLoad rfl; (focus (walk_nrm; exact rfl)))
      | (co_apply sl_leave1 S rfl rfl H.f_uCas rfl; (focus (walk_nrm; exact rfl)))
      | (co_apply sl_leave0 S rfl rfl H.f_uStore rfl; (focus (walk_nrm; exact rfl)))
      | (co_apply sl_op S rfl rfl (by k_ne); (focus (intro W _ K hK; go_simp; (try w_num); exact hK)); (focus (intro W _; simp [go_sem, *])); (focus (walk_nrm; exact rfl))))
    rw [hZ]
    exact quit_enable H rfl (quit_leave0 rfl rfl H.f_add rfl hT)
  · -- some are counted and nobody waits
    replace hw : WgAt L.tWg Wg w₃ (((v : Nat) + 1) * KK + 0) 0 := by simpa using hw
    have z : ((v : Nat) : Int) * KK + ((0 : Nat) : Int) = (v : Int) * KK + 0 := by simp
    rw [z]
    have hv0 : 0 < v := by omega
    have eS : IntKind.u64.wrap (((v : Nat) + 1) * KK + 0 + 18446744069414584320) = (v : Int) * KK + 0 := by rw [IntKind.wrap_u64]; simp only [KK]; omega
    obtain ⟨X, hX⟩ : ∃ X : Int, X = (v : Int) * KK + 0 := ⟨_, rfl⟩
    rw [← hX] at eS ⊢
    have a1 : X / 4294967296 = (v : Int) := by rw [hX]; simp only [KK]; omega
    have b1 : bits .and .u64 X 2147483648 = 0 := by rw [hX]; have := Go.ConcN.st_flag v 0 (by omega) (by omega); simpa [KK] using this
    have b2 : bits .and .u64 X 2147483647 = 0 := by rw [hX]; have := Go.ConcN.st_waiters v 0 (by omega) (by omega); simpa [KK] using this
    have c1 : IntKind.i32.wrap (v : Int) = (v : Int) := by rw [IntKind.wrap_i32]; omega
    have q3 : decide ((v : Int) < 0) = false := decide_eq_false (by omega)
    have q4 : decide (0 < (v : Int)) = true := decide_eq_true (by omega)
    have q5 : ((v : Int) == 0) = false := by simp; omega
    have q6 : decide ((v : Int) = 0) = false := decide_eq_false (by omega)
    clear hX
    refine ⟨_, (stepG_add_atomic rfl rfl (by k_ne) rfl H.f_addU64 (x_addU64_n L) (x_addU64_b L) (x_addU64_x L) .u64 (x_addU64_f L) rfl rfl hw.cellSt (hw.thaw 0)).trans (by rw [eS]; rfl), fun hl => absurd hl.1 (by omega), fun _ => ?_⟩
    clear hw
    walk_nrm
    obtain ⟨Y, hY⟩ : ∃ Y, Y = (fun b a k cs => Quit P 1 (G (Frame.at b a k) cs)) := ⟨_, rfl⟩
    obtain ⟨Z, hZ⟩ : ∃ Z, Z = (fun b a k cs => Quit P 1 (G { Frame.at b a k with mode := .returning } cs)) := ⟨_, rfl⟩
    have S : Sil P false (fun _ => True) Y Z := by rw [hY, hZ]; exact sil_quits 1
    suffices h : Y _ _ _ _ by rw [hY] at h; exact h
    repeat (first
      | refine sl_done S ?_
      | refine sl_seq S ?_
      | refine sl_skip S ?_
      | (co_apply sl_region S (by simp only [List.size_toArray, List.length_cons, List.length_nil, Nat.reduceAdd, Nat.zero_add, List.range, List.range.loop]; exact rfl))
      | refine sl_true S rfl ?_
      | refine sl_false S rfl ?_
      | refine sl_ret S ?_
      | refine sl_block S ?_
      | refine sl_loop S ?_
      | refine sl_inBlock S ?_
      | refine sl_inLoop S ?_
      | (refine sl_exit S (k' := _) rfl ?_)
      | refine sl_end S ?_
      | (co_apply sl_off S rfl rfl; (focus (walk_nrm; exact rfl)))
      | (co_apply sl_defer S rfl rfl (by k_ne) rfl; (focus (walk_nrm; exact rfl)))
      | (co_apply sl_call S rfl rfl (by k_ne) rfl H.f_uAdd (nm_uAdd L) rfl; (focus (walk_nrmf uAddFn; exact rfl)))
      | (co_apply sl_call S rfl rfl (by k_ne) rfl H.f_uLoad (nm_uLoad L) rfl; (focus (walk_nrmf uLoadFn; exact rfl)))
      | (co_apply sl_call S rfl rfl (by k_ne) rfl H.f_uStore (nm_uStore L) rfl; (focus (walk_nrmf uStoreFn; exact rfl)))
      | (co_apply sl_call S rfl rfl (by k_ne) rfl H.f_uCas (nm_uCas L) rfl; (focus (walk_nrmf uCasFn; exact rfl)))
      | (co_apply sl_entry S (.bool false) rfl rfl (by k_ne) rfl H.f_inBubble (x_inBubble_n L) (x_inBubble_b L) (x_inBubble_x L) (x_inBubble_f L); (focus (walk_nrm; exact rfl)))
      | (co_apply sl_leave1 S rfl rfl H.f_uAdd rfl; (focus (walk_nrm; exact rfl)))
      | (co_apply sl_leave1 S rfl rfl H.f_uLoad rfl; (focus (walk_nrm; exact rfl)))
      | (co_apply sl_leave1 S rfl rfl H.f_uCas rfl; (focus (walk_nrm; exact rfl)))
      | (co_apply sl_leave0 S rfl rfl H.f_uStore rfl; (focus (walk_nrm; exact rfl)))
      | (co_apply sl_op S rfl rfl (by k_ne); (focus (intro W _ K hK; go_simp; (try w_num); exact hK)); (focus (intro W _; simp [go_sem, *])); (focus (walk_nrm; exact rfl))))
    rw [hZ]
    exact quit_enable H rfl (quit_leave0 rfl rfl H.f_add rfl hT)
  · -- some are counted and the starter waits
    replace hw : WgAt L.tWg Wg w₃ (((v : Nat) + 1) * KK + 1) 0 := by simpa using hw
    have z : ((v : Nat) : Int) * KK + ((1 : Nat) : Int) = (v : Int) * KK + 1 := by simp
    rw [z]
    have hv0 : 0 < v := by omega
    have eS : IntKind.u64.wrap (((v : Nat) + 1) * KK + 1 + 18446744069414584320) = (v : Int) * KK + 1 := by rw [IntKind.wrap_u64]; simp only [KK]; omega
    obtain ⟨X, hX⟩ : ∃ X : Int, X = (v : Int) * KK + 1 := ⟨_, rfl⟩
    rw [← hX] at eS ⊢
    have a1 : X / 4294967296 = (v : Int) := by rw [hX]; simp only [KK]; omega
    have b1 : bits .and .u64 X 2147483648 = 0 := by rw [hX]; have := Go.ConcN.st_flag v 1 (by omega) (by omega); simpa [KK] using this
    have b2 : bits .and .u64 X 2147483647 = 1 := by rw [hX]; have := Go.ConcN.st_waiters v 1 (by omega) (by omega); simpa [KK] using this
    have c1 : IntKind.i32.wrap (v : Int) = (v : Int) := by rw [IntKind.wrap_i32]; omega
    have q3 : decide ((v : Int) < 0) = false := decide_eq_false (by omega)
    have q4 : decide (0 < (v : Int)) = true := decide_eq_true (by omega)
    have q5 : ((v : Int) == 0) = false := by simp; omega
    have q6 : decide ((v : Int) = 0) = false := decide_eq_false (by omega)
    clear hX
    refine ⟨_, (stepG_add_atomic rfl rfl (by k_ne) rfl H.f_addU64 (x_addU64_n L) (x_addU64_b L) (x_addU64_x L) .u64 (x_addU64_f L) rfl rfl hw.cellSt (hw.thaw 0)).trans (by rw [eS]; rfl), fun hl => absurd hl.1 (by omega), fun _ => ?_⟩
    clear hw
    walk_nrm
    obtain ⟨Y, hY⟩ : ∃ Y, Y = (fun b a k cs => Quit P 1 (G (Frame.at b a k) cs)) := ⟨_, rfl⟩
    obtain ⟨Z, hZ⟩ : ∃ Z, Z = (fun b a k cs => Quit P 1 (G { Frame.at b a k with mode := .returning } cs)) := ⟨_, rfl⟩
    have S : Sil P false (fun _ => True) Y Z := by rw [hY, hZ]; exact sil_quits 1
    suffices h : Y _ _ _ _ by rw [hY] at h; exact h
    repeat (first
      | refine sl_done S ?_
      | refine sl_seq S ?_
      | refine sl_skip S ?_
      | (co_apply sl_region S (by simp only [List.size_toArray, List.length_cons, List.length_nil, Nat.reduceAdd, Nat.zero_add, List.range, List.range.loop]; exact rfl))
      | refine sl_true S rfl ?_
      | refine sl_false S rfl ?_
      | refine sl_ret S ?_
      | refine sl_block S ?_
      | refine sl_loop S ?_
      | refine sl_inBlock S ?_
      | refine sl_inLoop S ?_
      | (refine sl_exit S (k' := _) rfl ?_)
      | refine sl_end S ?_
      | (co_apply sl_off S rfl rfl; (focus (walk_nrm; exact rfl)))
      | (co_apply sl_defer S rfl rfl (by k_ne) rfl; (focus (walk_nrm; exact rfl)))
      | (co_apply sl_call S rfl rfl (by k_ne) rfl H.f_uAdd (nm_uAdd L) rfl; (focus (walk_nrmf uAddFn; exact rfl)))
      | (co_apply sl_call S rfl rfl (by k_ne) rfl H.f_uLoad (nm_uLoad L) rfl; (focus (walk_nrmf uLoadFn; exact rfl)))
      | (co_apply sl_call S rfl rfl (by k_ne) rfl H.f_uStore (nm_uStore L) rfl; (focus (walk_nrmf uStoreFn; exact rfl)))
      | (co_apply sl_call S rfl rfl (by k_ne) rfl H.f_uCas (nm_uCas L) rfl; (focus (walk_nrmf uCasFn; exact rfl)))
      | (co_apply sl_entry S (.bool false) rfl rfl (by k_ne) rfl H.f_inBubble (x_inBubble_n L) (x_inBubble_b L) (x_inBubble_x L) (x_inBubble_f L); (focus (walk_nrm; exact rfl)))
      | (co_apply sl_leave1 S rfl rfl H.f_uAdd rfl; (focus (walk_nrm; exact rfl)))
      | (co_apply sl_leave1 S rfl rfl H.f_uLoad rfl; (focus (walk_nrm; exact rfl)))
      | (co_apply sl_leave1 S rfl rfl H.f_uCas rfl; (focus (walk_nrm; exact rfl)))
      | (co_apply sl_leave0 S rfl rfl H.f_uStore rfl; (focus (walk_nrm; exact rfl)))
      | (co_apply sl_op S rfl rfl (by k_ne); (focus (intro W _ K hK; go_simp; (try w_num); exact hK)); (focus (intro W _; simp [go_sem, *])); (focus (walk_nrm; exact rfl))))
    rw [hZ]
    exact quit_enable H rfl (quit_leave0 rfl rfl H.f_add rfl hT)
set_option maxRecDepth 100000 in
/-- 'defer wg.Done()', from the moment the deferred call is entered. -/
theorem done_way {P : Program} (H : WgLib P L) {Wg N : Nat} {b : Frame} {a : Act} {todo : List Item} {cs : List Frame} (hT : Quit P 0 (G { b.at a todo with mode := .returning } cs)) (w : World) (hK : Fct L.tWg Wg N w) :
    Go1 P false (RM L.tWg Wg) DC0 (LR0 P L.tWg Wg) w (G ((baseD L.done).at ⟨#[.pointer (some ⟨Wg, 0, none⟩), undef, undef, undef], []⟩ [.code (body_done L)]) ({ b.at a todo with mode := .returning } :: cs)) := by
  lib_facts
  have hA := @add_neg L P H Wg N
  simp only [body_done, body_add, doneFn, addFn, Option.getD_some] at hA ⊢
  obtain ⟨Y, hY⟩ : ∃ Y, Y = (fun bq aq kq cq => Go1 P false (RM L.tWg Wg) DC0 (LR0 P L.tWg Wg) w (G (Frame.at bq aq kq) cq)) := ⟨_, rfl⟩
  obtain ⟨Z, hZ⟩ : ∃ Z, Z = (fun bq aq kq cq => Go1 P false (RM L.tWg Wg) DC0 (LR0 P L.tWg Wg) w (G { Frame.at bq aq kq with mode := .returning } cq)) := ⟨_, rfl⟩
  have S : Sil P false ((RM L.tWg Wg) w) Y Z := by rw [hY, hZ]; exact sil_goes (P := P) (main := false) (R := (RM L.tWg Wg)) (D := DC0) (Stop := (LR0 P L.tWg Wg)) (fun _ _ _ h g => h.trans g) (fun _ => ⟨rfl, rfl⟩) w
  suffices h : Y _ _ _ _ by rw [hY] at h; exact h
  repeat (first
    | refine sl_done S ?_
    | refine sl_seq S ?_
    | refine sl_skip S ?_
    | (co_apply sl_region S (by simp only [List.size_toArray, List.length_cons, List.length_nil, Nat.reduceAdd, Nat.zero_add, List.range, List.range.loop]; exact rfl))
    | refine sl_true S rfl ?_
    | refine sl_false S rfl ?_
    | refine sl_ret S ?_
    | refine sl_block S ?_
    | refine sl_loop S ?_
    | refine sl_inBlock S ?_
    | refine sl_inLoop S ?_
    | (refine sl_exit S (k' := _) rfl ?_)
    | refine sl_end S ?_
    | (co_apply sl_off S rfl rfl; (focus (walk_nrm; exact rfl)))
    | (co_apply sl_defer S rfl rfl (by k_ne) rfl; (focus (walk_nrm; exact rfl)))
    | (co_apply sl_call S rfl rfl (by k_ne) rfl H.f_uAdd (nm_uAdd L) rfl; (focus (walk_nrmf uAddFn; exact rfl)))
    | (co_apply sl_call S rfl rfl (by k_ne) rfl H.f_uLoad (nm_uLoad L) rfl; (focus (walk_nrmf uLoadFn; exact rfl)))
    | (co_apply sl_call S rfl rfl (by k_ne) rfl H.f_uStore (nm_uStore L) rfl; (focus (walk_nrmf uStoreFn; exact rfl)))
    | (co_apply sl_call S rfl rfl (by k_ne) rfl H.f_uCas (nm_uCas L) rfl; (focus (walk_nrmf uCasFn; exact rfl)))
    | (co_apply sl_entry S (.bool false) rfl rfl (by k_ne) rfl H.f_inBubble (x_inBubble_n L) (x_inBubble_b L) (x_inBubble_x L) (x_inBubble_f L); (focus (walk_nrm; exact rfl)))
    | (co_apply sl_leave1 S rfl rfl H.f_uAdd rfl; (focus (walk_nrm; exact rfl)))
    | (co_apply sl_leave1 S rfl rfl H.f_uLoad rfl; (focus (walk_nrm; exact rfl)))
    | (co_apply sl_leave1 S rfl rfl H.f_uCas rfl; (focus (walk_nrm; exact rfl)))
    | (co_apply sl_leave0 S rfl rfl H.f_uStore rfl; (focus (walk_nrm; exact rfl)))
    | (co_apply sl_op S rfl rfl (by k_ne); (focus (intro W _ K hK; go_simp; (try w_num); exact hK)); (focus (intro W _; simp [go_sem, *])); (focus (walk_nrm; exact rfl))))
  co_apply sl_call S rfl rfl (by k_ne) rfl H.f_add (nm_add L) rfl
  · walk_nrmf addFn
    exact rfl
  rw [hY]
  refine hA ?_ w hK
  refine quit_done rfl ?_
  exact quit_leaveD rfl rfl H.f_done rfl hT
end Go.Proofs.Ytebgcemglicjiaa
