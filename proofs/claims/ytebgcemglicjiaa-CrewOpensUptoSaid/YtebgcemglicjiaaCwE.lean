/- (*sync.WaitGroup).Wait, beside others that make memory. Printed by gen_cwc.py. No condition of ours. -/
import Derived.Test.YtebgcemglicjiaaCwD
import Derived.Conc.CompanyWords
namespace Go.Proofs.Ytebgcemglicjiaa
open Go.Conc Go.RowKit Go.Conc.Lib Go.ConcR.Gen Go.ConcN.Gen
open Go.ConcN (ShN WgLive)
open Go.ConcR (KK WgAt stA smA rd wr mk DC0)
variable {L : WgLink}
/-- At the head of Wait's loop. -/
def AnchM (L : WgLink) (N Wg : Nat) (c : Frame) (cs : List Frame) (g : Goroutine) (w : World) : Prop :=
  ∃ T : Array Value, g = G ((base L.wait).at ⟨T, []⟩ [.code (L7 L), .inLoop (L7 L), .inBlock 0]) (c :: cs) ∧ T.size = 84 ∧ T[0]? = some (.pointer (some ⟨Wg, 0, none⟩)) ∧ Fct L.tWg Wg N w
section
variable {Wg N : Nat} {Tail : Goroutine → World → Prop} {b₀ : Frame} {a₀ : Act} {ops₀ : Array Oper} {i₀ : Nat} {rest₀ : List Nat} {k₀ : List Item} {cs : List Frame}
set_option maxRecDepth 100000 in
set_option maxHeartbeats 8000000 in
theorem wait_round {P : Program} (H : WgLib P L)
    (hT : ∀ w, Fct L.tWg Wg N w → Go1 P true (RM L.tWg Wg) (DM Wg) Tail w (G (b₀.at (a₀.put ((ops₀[i₀]?).bind (·.dst)) (.tuple #[])) (.inRegion ops₀ rest₀ :: k₀)) cs)) (g : Goroutine) (w : World)
    (h : AnchM L N Wg (b₀.at a₀ (.inRegion ops₀ (i₀ :: rest₀) :: k₀)) cs g w) : Go1 P true (RM L.tWg Wg) (DM Wg) (MW1 P L.tWg Wg (AnchM L N Wg (b₀.at a₀ (.inRegion ops₀ (i₀ :: rest₀) :: k₀)) cs) Tail) w g := by
  lib_facts
  obtain ⟨T, rfl, hT84, t0, hK⟩ := h
  obtain ⟨v0, v1, v2, v3, v4, v5, v6, v7, v8, v9, v10, v11, v12, v13, v14, v15, v16, v17, v18, v19, v20, v21, v22, v23, v24, v25, v26, v27, v28, v29, v30, v31, v32, v33, v34, v35, v36, v37, v38, v39, v40, v41, v42, v43, v44, v45, v46, v47, v48, v49, v50, v51, v52, v53, v54, v55, v56, v57, v58, v59, v60, v61, v62, v63, v64, v65, v66, v67, v68, v69, v70, v71, v72, v73, v74, v75, v76, v77, v78, v79, v80, v81, v82, v83, rfl⟩ := array84 T hT84
  simp only [List.getElem?_toArray, List.getElem?_cons_zero, Option.some.injEq] at t0
  subst t0
  simp only [L7, body_wait, waitFn, Option.getD_some]
  obtain ⟨Y, hY⟩ : ∃ Y, Y = (fun bq aq kq cq => Go1 P true (RM L.tWg Wg) (DM Wg) (MW1 P L.tWg Wg (AnchM L N Wg (b₀.at a₀ (.inRegion ops₀ (i₀ :: rest₀) :: k₀)) cs) Tail) w (G (Frame.at bq aq kq) cq)) := ⟨_, rfl⟩
  obtain ⟨Z, hZ⟩ : ∃ Z, Z = (fun bq aq kq cq => Go1 P true (RM L.tWg Wg) (DM Wg) (MW1 P L.tWg Wg (AnchM L N Wg (b₀.at a₀ (.inRegion ops₀ (i₀ :: rest₀) :: k₀)) cs) Tail) w (G { Frame.at bq aq kq with mode := .returning } cq)) := ⟨_, rfl⟩
  have S : Sil P true ((RM L.tWg Wg) w) Y Z := by rw [hY, hZ]; exact sil_goes (P := P) (main := true) (R := (RM L.tWg Wg)) (D := (DM Wg)) (Stop := (MW1 P L.tWg Wg (AnchM L N Wg (b₀.at a₀ (.inRegion ops₀ (i₀ :: rest₀) :: k₀)) cs) Tail)) (fun _ _ _ h g => h.trans g) (fun _ => dm_none (fun e he => by simp at he)) w
  suffices h : Y _ _ _ _ by rw [hY] at h; exact h
  repeat (first
    | refine sl_done S ?_
    | refine sl_seq S ?_
    | refine sl_skip S ?_
    | (co_apply sl_region S (by simp only [List.size_toArray, List.length_cons, List.length_nil, Nat.reduceAdd, Nat.zero_add, List.range, List.range.loop]; exact rfl))
    | refine sl_true S rfl ?_
    | refine sl_false S rfl ?_
    | refine sl_ret S ?_
    | refine sl_block S ?_
    | refine sl_loop S ?_
    | refine sl_inBlock S ?_
    | refine sl_inLoop S ?_
    | (refine sl_exit S (k' := _) rfl ?_)
    | refine sl_end S ?_
    | (co_apply sl_off S rfl rfl; (focus (walk_nrm; exact rfl)))
    | (co_apply sl_defer S rfl rfl (by k_ne) rfl; (focus (walk_nrm; exact rfl)))
    | (co_apply sl_call S rfl rfl (by k_ne) rfl H.f_uAdd (nm_uAdd L) rfl; (focus (walk_nrmf uAddFn; exact rfl)))
    | (co_apply sl_call S rfl rfl (by k_ne) rfl H.f_uLoad (nm_uLoad L) rfl; (focus (walk_nrmf uLoadFn; exact rfl)))
    | (co_apply sl_call S rfl rfl (by k_ne) rfl H.f_uStore (nm_uStore L) rfl; (focus (walk_nrmf uStoreFn; exact rfl)))
    | (co_apply sl_call S rfl rfl (by k_ne) rfl H.f_uCas (nm_uCas L) rfl; (focus (walk_nrmf uCasFn; exact rfl)))
    | (co_apply sl_entry S (.bool false) rfl rfl (by k_ne) rfl H.f_inBubble (x_inBubble_n L) (x_inBubble_b L) (x_inBubble_x L) (x_inBubble_f L); (focus (walk_nrm; exact rfl)))
    | (co_apply sl_leave1 S rfl rfl H.f_uAdd rfl; (focus (walk_nrm; exact rfl)))
    | (co_apply sl_leave1 S rfl rfl H.f_uLoad rfl; (focus (walk_nrm; exact rfl)))
    | (co_apply sl_leave1 S rfl rfl H.f_uCas rfl; (focus (walk_nrm; exact rfl)))
    | (co_apply sl_leave0 S rfl rfl H.f_uStore rfl; (focus (walk_nrm; exact rfl)))
    | (co_apply sl_op S rfl rfl (by k_ne); (focus (intro W _ K hK; go_simp; (try w_num); exact hK)); (focus (intro W _; simp [go_sem, *])); (focus (walk_nrm; exact rfl))))
  rw [hY]
  refine ⟨0, fun w₁ h₁ => ?_⟩
  clear hY hZ S Y Z
  replace hK := fct_rely hK h₁
  clear h₁
  refine ⟨rfl, fun v hv hw => ?_⟩
  rcases Nat.eq_zero_or_pos v with rfl | hvp
  · -- it reads 0
    replace hw : WgAt L.tWg Wg w₁ 0 0 := by simpa using hw
    refine ⟨_, stepG_load_atomic (v := 0) rfl rfl (by k_ne) rfl H.f_loadU64 (x_loadU64_n L) (x_loadU64_b L) (x_loadU64_x L) .u64 (x_loadU64_f L) rfl hw.cellSt, fun _ => ?_, fun h => absurd rfl h⟩
    clear hw
    walk_nrm
    obtain ⟨Y, hY⟩ : ∃ Y, Y = (fun bq aq kq cq => Go1 P true (RM L.tWg Wg) (DM Wg) (MKe P L.tWg Wg Tail) w₁ (G (Frame.at bq aq kq) cq)) := ⟨_, rfl⟩
    obtain ⟨Z, hZ⟩ : ∃ Z, Z = (fun bq aq kq cq => Go1 P true (RM L.tWg Wg) (DM Wg) (MKe P L.tWg Wg Tail) w₁ (G { Frame.at bq aq kq with mode := .returning } cq)) := ⟨_, rfl⟩
    have S : Sil P true ((RM L.tWg Wg) w₁) Y Z := by rw [hY, hZ]; exact sil_goes (P := P) (main := true) (R := (RM L.tWg Wg)) (D := (DM Wg)) (Stop := (MKe P L.tWg Wg Tail)) (fun _ _ _ h g => h.trans g) (fun _ => dm_none (fun e he => by simp at he)) w₁
    suffices h : Y _ _ _ _ by rw [hY] at h; exact h
    repeat (first
      | refine sl_done S ?_
      | refine sl_seq S ?_
      | refine sl_skip S ?_
      | (co_apply sl_region S (by simp only [List.size_toArray, List.length_cons, List.length_nil, Nat.reduceAdd, Nat.zero_add, List.range, List.range.loop]; exact rfl))
      | refine sl_true S rfl ?_
      | refine sl_false S rfl ?_
      | refine sl_ret S ?_
      | refine sl_block S ?_
      | refine sl_loop S ?_
      | refine sl_inBlock S ?_
      | refine sl_inLoop S ?_
      | (refine sl_exit S (k' := _) rfl ?_)
      | refine sl_end S ?_
      | (co_apply sl_off S rfl rfl; (focus (walk_nrm; exact rfl)))
      | (co_apply sl_defer S rfl rfl (by k_ne) rfl; (focus (walk_nrm; exact rfl)))
      | (co_apply sl_call S rfl rfl (by k_ne) rfl H.f_uAdd (nm_uAdd L) rfl; (focus (walk_nrmf uAddFn; exact rfl)))
      | (co_apply sl_call S rfl rfl (by k_ne) rfl H.f_uLoad (nm_uLoad L) rfl; (focus (walk_nrmf uLoadFn; exact rfl)))
      | (co_apply sl_call S rfl rfl (by k_ne) rfl H.f_uStore (nm_uStore L) rfl; (focus (walk_nrmf uStoreFn; exact rfl)))
      | (co_apply sl_call S rfl rfl (by k_ne) rfl H.f_uCas (nm_uCas L) rfl; (focus (walk_nrmf uCasFn; exact rfl)))
      | (co_apply sl_entry S (.bool false) rfl rfl (by k_ne) rfl H.f_inBubble (x_inBubble_n L) (x_inBubble_b L) (x_inBubble_x L) (x_inBubble_f L); (focus (walk_nrm; exact rfl)))
      | (co_apply sl_leave1 S rfl rfl H.f_uAdd rfl; (focus (walk_nrm; exact rfl)))
      | (co_apply sl_leave1 S rfl rfl H.f_uLoad rfl; (focus (walk_nrm; exact rfl)))
      | (co_apply sl_leave1 S rfl rfl H.f_uCas rfl; (focus (walk_nrm; exact rfl)))
      | (co_apply sl_leave0 S rfl rfl H.f_uStore rfl; (focus (walk_nrm; exact rfl)))
      | (co_apply sl_op S rfl rfl (by k_ne); (focus (intro W _ K hK; go_simp; (try w_num); exact hK)); (focus (intro W _; simp [go_sem, *])); (focus (walk_nrm; exact rfl))))
    rw [hY]
    refine ⟨0, fun w₂ h₁ => ?_⟩
    clear hY hZ S Y Z
    replace hK := fct_rely hK h₁
    clear h₁
    refine ⟨rfl, _, stepG_mark0 .enable (by simp) rfl rfl (by k_ne) rfl H.f_enable (x_enable_n L) (x_enable_b L) (x_enable_x L) (x_enable_f L), ?_⟩
    walk_nrm
    obtain ⟨Y, hY⟩ : ∃ Y, Y = (fun bq aq kq cq => Go1 P true (RM L.tWg Wg) (DM Wg) (MAcq P L.tWg Wg Tail) w₂ (G (Frame.at bq aq kq) cq)) := ⟨_, rfl⟩
    obtain ⟨Z, hZ⟩ : ∃ Z, Z = (fun bq aq kq cq => Go1 P true (RM L.tWg Wg) (DM Wg) (MAcq P L.tWg Wg Tail) w₂ (G { Frame.at bq aq kq with mode := .returning } cq)) := ⟨_, rfl⟩
    have S : Sil P true ((RM L.tWg Wg) w₂) Y Z := by rw [hY, hZ]; exact sil_goes (P := P) (main := true) (R := (RM L.tWg Wg)) (D := (DM Wg)) (Stop := (MAcq P L.tWg Wg Tail)) (fun _ _ _ h g => h.trans g) (fun _ => dm_none (fun e he => by simp at he)) w₂
    suffices h : Y _ _ _ _ by rw [hY] at h; exact h
    repeat (first
      | refine sl_done S ?_
      | refine sl_seq S ?_
      | refine sl_skip S ?_
      | (co_apply sl_region S (by simp only [List.size_toArray, List.length_cons, List.length_nil, Nat.reduceAdd, Nat.zero_add, List.range, List.range.loop]; exact rfl))
      | refine sl_true S rfl ?_
      | refine sl_false S rfl ?_
      | refine sl_ret S ?_
      | refine sl_block S ?_
      | refine sl_loop S ?_
      | refine sl_inBlock S ?_
      | refine sl_inLoop S ?_
      | (refine sl_exit S (k' := _) rfl ?_)
      | refine sl_end S ?_
      | (co_apply sl_off S rfl rfl; (focus (walk_nrm; exact rfl)))
      | (co_apply sl_defer S rfl rfl (by k_ne) rfl; (focus (walk_nrm; exact rfl)))
      | (co_apply sl_call S rfl rfl (by k_ne) rfl H.f_uAdd (nm_uAdd L) rfl; (focus (walk_nrmf uAddFn; exact rfl)))
      | (co_apply sl_call S rfl rfl (by k_ne) rfl H.f_uLoad (nm_uLoad L) rfl; (focus (walk_nrmf uLoadFn; exact rfl)))
      | (co_apply sl_call S rfl rfl (by k_ne) rfl H.f_uStore (nm_uStore L) rfl; (focus (walk_nrmf uStoreFn; exact rfl)))
      | (co_apply sl_call S rfl rfl (by k_ne) rfl H.f_uCas (nm_uCas L) rfl; (focus (walk_nrmf uCasFn; exact rfl)))
      | (co_apply sl_entry S (.bool false) rfl rfl (by k_ne) rfl H.f_inBubble (x_inBubble_n L) (x_inBubble_b L) (x_inBubble_x L) (x_inBubble_f L); (focus (walk_nrm; exact rfl)))
      | (co_apply sl_leave1 S rfl rfl H.f_uAdd rfl; (focus (walk_nrm; exact rfl)))
      | (co_apply sl_leave1 S rfl rfl H.f_uLoad rfl; (focus (walk_nrm; exact rfl)))
      | (co_apply sl_leave1 S rfl rfl H.f_uCas rfl; (focus (walk_nrm; exact rfl)))
      | (co_apply sl_leave0 S rfl rfl H.f_uStore rfl; (focus (walk_nrm; exact rfl)))
      | (co_apply sl_op S rfl rfl (by k_ne); (focus (intro W _ K hK; go_simp; (try w_num); exact hK)); (focus (intro W _; simp [go_sem, *])); (focus (walk_nrm; exact rfl))))
    co_apply sl_conv S rfl rfl (by k_ne) rfl rfl H.underlying_tWgP H.underlying_tUP H.room_tWg (fun w₁ r => Fct.cell0 (fct_rely hK r))
    · walk_nrm; exact rfl
    rw [hY]
    refine ⟨0, fun w₃ h₁ => ?_⟩
    clear hY hZ S Y Z
    replace hK := fct_rely hK h₁
    clear h₁
    refine ⟨rfl, _, stepG_markAt .acquire (by simp) rfl rfl (by k_ne) rfl H.f_acquire (x_acquire_n L) (x_acquire_b L) (x_acquire_x L) (x_acquire_f L) (by simp [Act.eval, stA]), ?_⟩
    walk_nrm
    obtain ⟨Y, hY⟩ : ∃ Y, Y = (fun bq aq kq cq => Go1 P true (RM L.tWg Wg) (DM Wg) Tail w₃ (G (Frame.at bq aq kq) cq)) := ⟨_, rfl⟩
    obtain ⟨Z, hZ⟩ : ∃ Z, Z = (fun bq aq kq cq => Go1 P true (RM L.tWg Wg) (DM Wg) Tail w₃ (G { Frame.at bq aq kq with mode := .returning } cq)) := ⟨_, rfl⟩
    have S : Sil P true ((RM L.tWg Wg) w₃) Y Z := by rw [hY, hZ]; exact sil_goes (P := P) (main := true) (R := (RM L.tWg Wg)) (D := (DM Wg)) (Stop := Tail) (fun _ _ _ h g => h.trans g) (fun _ => dm_none (fun e he => by simp at he)) w₃
    suffices h : Y _ _ _ _ by rw [hY] at h; exact h
    repeat (first
      | refine sl_done S ?_
      | refine sl_seq S ?_
      | refine sl_skip S ?_
      | (co_apply sl_region S (by simp only [List.size_toArray, List.length_cons, List.length_nil, Nat.reduceAdd, Nat.zero_add, List.range, List.range.loop]; exact rfl))
      | refine sl_true S rfl ?_
      | refine sl_false S rfl ?_
      | refine sl_ret S ?_
      | refine sl_block S ?_
      | refine sl_loop S ?_
      | refine sl_inBlock S ?_
      | refine sl_inLoop S ?_
      | (refine sl_exit S (k' := _) rfl ?_)
      | refine sl_end S ?_
      | (co_apply sl_off S rfl rfl; (focus (walk_nrm; exact rfl)))
      | (co_apply sl_defer S rfl rfl (by k_ne) rfl; (focus (walk_nrm; exact rfl)))
      | (co_apply sl_call S rfl rfl (by k_ne) rfl H.f_uAdd (nm_uAdd L) rfl; (focus (walk_nrmf uAddFn; exact rfl)))
      | (co_apply sl_call S rfl rfl (by k_ne) rfl H.f_uLoad (nm_uLoad L) rfl; (focus (walk_nrmf uLoadFn; exact rfl)))
      | (co_apply sl_call S rfl rfl (by k_ne) rfl H.f_uStore (nm_uStore L) rfl; (focus (walk_nrmf uStoreFn; exact rfl)))
      | (co_apply sl_call S rfl rfl (by k_ne) rfl H.f_uCas (nm_uCas L) rfl; (focus (walk_nrmf uCasFn; exact rfl)))
      | (co_apply sl_entry S (.bool false) rfl rfl (by k_ne) rfl H.f_inBubble (x_inBubble_n L) (x_inBubble_b L) (x_inBubble_x L) (x_inBubble_f L); (focus (walk_nrm; exact rfl)))
      | (co_apply sl_leave1 S rfl rfl H.f_uAdd rfl; (focus (walk_nrm; exact rfl)))
      | (co_apply sl_leave1 S rfl rfl H.f_uLoad rfl; (focus (walk_nrm; exact rfl)))
      | (co_apply sl_leave1 S rfl rfl H.f_uCas rfl; (focus (walk_nrm; exact rfl)))
      | (co_apply sl_leave0 S rfl rfl H.f_uStore rfl; (focus (walk_nrm; exact rfl)))
      | (co_apply sl_op S rfl rfl (by k_ne); (focus (intro W _ K hK; go_simp; (try w_num); exact hK)); (focus (intro W _; simp [go_sem, *])); (focus (walk_nrm; exact rfl))))
    refine sl_leave0 S rfl rfl H.f_wait rfl rfl ?_
    rw [hY]
    exact hT _ hK
  · -- some are counted
    obtain ⟨X, hS⟩ : ∃ X : Int, (v : Int) * KK = X := ⟨_, rfl⟩
    have a1 : X / 4294967296 = (v : Int) := by rw [← hS]; simp only [KK]; omega
    have b1 : bits .and .u64 X 2147483648 = 0 := by rw [← hS]; have := Go.ConcN.st_flag v 0 (by omega) (by omega); simpa [KK] using this
    have b2 : bits .and .u64 X 2147483647 = 0 := by rw [← hS]; have := Go.ConcN.st_waiters v 0 (by omega) (by omega); simpa [KK] using this
    have c1 : IntKind.i32.wrap (v : Int) = (v : Int) := by rw [IntKind.wrap_i32]; omega
    have w1 : IntKind.u64.wrap (X + 1) = X + 1 := by rw [IntKind.wrap_u64, ← hS]; simp only [KK]; omega
    have q3 : decide ((v : Int) < 0) = false := decide_eq_false (by omega)
    have q4 : decide (0 < (v : Int)) = true := decide_eq_true (by omega)
    have q5 : ((v : Int) == 0) = false := by simp; omega
    have q6 : decide ((v : Int) = 0) = false := decide_eq_false (by omega)
    rw [hS] at hw
    refine ⟨_, stepG_load_atomic (v := X) rfl rfl (by k_ne) rfl H.f_loadU64 (x_loadU64_n L) (x_loadU64_b L) (x_loadU64_x L) .u64 (x_loadU64_f L) rfl hw.cellSt, fun h0 => absurd h0 (by omega), fun _ => ?_⟩
    clear hw
    walk_nrm
    obtain ⟨Y, hY⟩ : ∃ Y, Y = (fun bq aq kq cq => Go1 P true (RM L.tWg Wg) (DM Wg) (MW2 P L.tWg Wg (AnchM L N Wg (b₀.at a₀ (.inRegion ops₀ (i₀ :: rest₀) :: k₀)) cs) Tail v) w₁ (G (Frame.at bq aq kq) cq)) := ⟨_, rfl⟩
    obtain ⟨Z, hZ⟩ : ∃ Z, Z = (fun bq aq kq cq => Go1 P true (RM L.tWg Wg) (DM Wg) (MW2 P L.tWg Wg (AnchM L N Wg (b₀.at a₀ (.inRegion ops₀ (i₀ :: rest₀) :: k₀)) cs) Tail v) w₁ (G { Frame.at bq aq kq with mode := .returning } cq)) := ⟨_, rfl⟩
    have S : Sil P true ((RM L.tWg Wg) w₁) Y Z := by rw [hY, hZ]; exact sil_goes (P := P) (main := true) (R := (RM L.tWg Wg)) (D := (DM Wg)) (Stop := (MW2 P L.tWg Wg (AnchM L N Wg (b₀.at a₀ (.inRegion ops₀ (i₀ :: rest₀) :: k₀)) cs) Tail v)) (fun _ _ _ h g => h.trans g) (fun _ => dm_none (fun e he => by simp at he)) w₁
    suffices h : Y _ _ _ _ by rw [hY] at h; exact h
    repeat (first
      | refine sl_done S ?_
      | refine sl_seq S ?_
      | refine sl_skip S ?_
      | (co_apply sl_region S (by simp only [List.size_toArray, List.length_cons, List.length_nil, Nat.reduceAdd, Nat.zero_add, List.range, List.range.loop]; exact rfl))
      | refine sl_true S rfl ?_
      | refine sl_false S rfl ?_
      | refine sl_ret S ?_
      | refine sl_block S ?_
      | refine sl_loop S ?_
      | refine sl_inBlock S ?_
      | refine sl_inLoop S ?_
      | (refine sl_exit S (k' := _) rfl ?_)
      | refine sl_end S ?_
      | (co_apply sl_off S rfl rfl; (focus (walk_nrm; exact rfl)))
      | (co_apply sl_defer S rfl rfl (by k_ne) rfl; (focus (walk_nrm; exact rfl)))
      | (co_apply sl_call S rfl rfl (by k_ne) rfl H.f_uAdd (nm_uAdd L) rfl; (focus (walk_nrmf uAddFn; exact rfl)))
      | (co_apply sl_call S rfl rfl (by k_ne) rfl H.f_uLoad (nm_uLoad L) rfl; (focus (walk_nrmf uLoadFn; exact rfl)))
      | (co_apply sl_call S rfl rfl (by k_ne) rfl H.f_uStore (nm_uStore L) rfl; (focus (walk_nrmf uStoreFn; exact rfl)))
      | (co_apply sl_call S rfl rfl (by k_ne) rfl H.f_uCas (nm_uCas L) rfl; (focus (walk_nrmf uCasFn; exact rfl)))
      | (co_apply sl_entry S (.bool false) rfl rfl (by k_ne) rfl H.f_inBubble (x_inBubble_n L) (x_inBubble_b L) (x_inBubble_x L) (x_inBubble_f L); (focus (walk_nrm; exact rfl)))
      | (co_apply sl_leave1 S rfl rfl H.f_uAdd rfl; (focus (walk_nrm; exact rfl)))
      | (co_apply sl_leave1 S rfl rfl H.f_uLoad rfl; (focus (walk_nrm; exact rfl)))
      | (co_apply sl_leave1 S rfl rfl H.f_uCas rfl; (focus (walk_nrm; exact rfl)))
      | (co_apply sl_leave0 S rfl rfl H.f_uStore rfl; (focus (walk_nrm; exact rfl)))
      | (co_apply sl_op S rfl rfl (by k_ne); (focus (intro W _ K hK; go_simp; (try w_num); exact hK)); (focus (intro W _; simp [go_sem, *])); (focus (walk_nrm; exact rfl))))
    rw [hY]
    refine ⟨0, fun w₂ h₁ => ?_⟩
    clear hY hZ S Y Z
    replace hK := fct_rely hK h₁
    clear h₁
    refine ⟨rfl, fun v' hv' hw => ⟨fun e => ?_, fun e => ?_⟩⟩
    · -- the swap hits
      subst e
      rw [hS] at hw ⊢
      refine ⟨_, (stepG_cas_hit (v := X) (n := X + 1) rfl rfl (by k_ne) rfl H.f_casU64 (x_casU64_n L) (x_casU64_b L) (x_casU64_x L) .u64 (x_casU64_f L) rfl rfl rfl hw.cellSt (hw.thaw 0)).trans (by rfl), ?_⟩
      replace hK := hK.set _ _ (hw.setSt (X + 1))
      clear hw
      generalize w₂.setCell (stA Wg) (.int .u64 (X + 1)) = w₃ at hK ⊢
      walk_nrm
      obtain ⟨Y, hY⟩ : ∃ Y, Y = (fun bq aq kq cq => Go1 P true (RM L.tWg Wg) (DM Wg) (MW3 P L.tWg Wg Tail) w₃ (G (Frame.at bq aq kq) cq)) := ⟨_, rfl⟩
      obtain ⟨Z, hZ⟩ : ∃ Z, Z = (fun bq aq kq cq => Go1 P true (RM L.tWg Wg) (DM Wg) (MW3 P L.tWg Wg Tail) w₃ (G { Frame.at bq aq kq with mode := .returning } cq)) := ⟨_, rfl⟩
      have S : Sil P true ((RM L.tWg Wg) w₃) Y Z := by rw [hY, hZ]; exact sil_goes (P := P) (main := true) (R := (RM L.tWg Wg)) (D := (DM Wg)) (Stop := (MW3 P L.tWg Wg Tail)) (fun _ _ _ h g => h.trans g) (fun _ => dm_none (fun e he => by simp at he)) w₃
      suffices h : Y _ _ _ _ by rw [hY] at h; exact h
      repeat (first
        | refine sl_done S ?_
        | refine sl_seq S ?_
        | refine sl_skip S ?_
        | (co_apply sl_region S (by simp only [List.size_toArray, List.length_cons, List.length_nil, Nat.reduceAdd, Nat.zero_add, List.range, List.range.loop]; exact rfl))
        | refine sl_true S rfl ?_
        | refine sl_false S rfl ?_
        | refine sl_ret S ?_
        | refine sl_block S ?_
        | refine sl_loop S ?_
        | refine sl_inBlock S ?_
        | refine sl_inLoop S ?_
        | (refine sl_exit S (k' := _) rfl ?_)
        | refine sl_end S ?_
        | (co_apply sl_off S rfl rfl; (focus (walk_nrm; exact rfl)))
        | (co_apply sl_defer S rfl rfl (by k_ne) rfl; (focus (walk_nrm; exact rfl)))
        | (co_apply sl_call S rfl rfl (by k_ne) rfl H.f_uAdd (nm_uAdd L) rfl; (focus (walk_nrmf uAddFn; exact rfl)))
        | (co_apply sl_call S rfl rfl (by k_ne) rfl H.f_uLoad (nm_uLoad L) rfl; (focus (walk_nrmf uLoadFn; exact rfl)))
        | (co_apply sl_call S rfl rfl (by k_ne) rfl H.f_uStore (nm_uStore L) rfl; (focus (walk_nrmf uStoreFn; exact rfl)))
        | (co_apply sl_call S rfl rfl (by k_ne) rfl H.f_uCas (nm_uCas L) rfl; (focus (walk_nrmf uCasFn; exact rfl)))
        | (co_apply sl_entry S (.bool false) rfl rfl (by k_ne) rfl H.f_inBubble (x_inBubble_n L) (x_inBubble_b L) (x_inBubble_x L) (x_inBubble_f L); (focus (walk_nrm; exact rfl)))
        | (co_apply sl_leave1 S rfl rfl H.f_uAdd rfl; (focus (walk_nrm; exact rfl)))
        | (co_apply sl_leave1 S rfl rfl H.f_uLoad rfl; (focus (walk_nrm; exact rfl)))
        | (co_apply sl_leave1 S rfl rfl H.f_uCas rfl; (focus (walk_nrm; exact rfl)))
        | (co_apply sl_leave0 S rfl rfl H.f_uStore rfl; (focus (walk_nrm; exact rfl)))
        | (co_apply sl_op S rfl rfl (by k_ne); (focus (intro W _ K hK; go_simp; (try w_num); exact hK)); (focus (intro W _; simp [go_sem, *])); (focus (walk_nrm; exact rfl))))
      co_apply sl_conv S rfl rfl (by k_ne) rfl rfl H.underlying_tPU32 H.underlying_tUP H.room_tU32 (fun w₁ r => Fct.cell1 (fct_rely hK r))
      · walk_nrm; exact rfl
      rw [hY]
      refine go1_said rfl (fun w₁ => stepG_markAt .write (by simp) rfl rfl (by k_ne) rfl H.f_raceWrite (x_raceWrite_n L) (x_raceWrite_b L) (x_raceWrite_x L) (x_raceWrite_f L) (ad := ⟨Wg, 1, none⟩) (by simp [Act.eval])) (evM_write _ rfl) ?_
      walk_nrm
      suffices h : Y _ _ _ _ by rw [hY] at h; exact h
      repeat (first
        | refine sl_done S ?_
        | refine sl_seq S ?_
        | refine sl_skip S ?_
        | (co_apply sl_region S (by simp only [List.size_toArray, List.length_cons, List.length_nil, Nat.reduceAdd, Nat.zero_add, List.range, List.range.loop]; exact rfl))
        | refine sl_true S rfl ?_
        | refine sl_false S rfl ?_
        | refine sl_ret S ?_
        | refine sl_block S ?_
        | refine sl_loop S ?_
        | refine sl_inBlock S ?_
        | refine sl_inLoop S ?_
        | (refine sl_exit S (k' := _) rfl ?_)
        | refine sl_end S ?_
        | (co_apply sl_off S rfl rfl; (focus (walk_nrm; exact rfl)))
        | (co_apply sl_defer S rfl rfl (by k_ne) rfl; (focus (walk_nrm; exact rfl)))
        | (co_apply sl_call S rfl rfl (by k_ne) rfl H.f_uAdd (nm_uAdd L) rfl; (focus (walk_nrmf uAddFn; exact rfl)))
        | (co_apply sl_call S rfl rfl (by k_ne) rfl H.f_uLoad (nm_uLoad L) rfl; (focus (walk_nrmf uLoadFn; exact rfl)))
        | (co_apply sl_call S rfl rfl (by k_ne) rfl H.f_uStore (nm_uStore L) rfl; (focus (walk_nrmf uStoreFn; exact rfl)))
        | (co_apply sl_call S rfl rfl (by k_ne) rfl H.f_uCas (nm_uCas L) rfl; (focus (walk_nrmf uCasFn; exact rfl)))
        | (co_apply sl_entry S (.bool false) rfl rfl (by k_ne) rfl H.f_inBubble (x_inBubble_n L) (x_inBubble_b L) (x_inBubble_x L) (x_inBubble_f L); (focus (walk_nrm; exact rfl)))
        | (co_apply sl_leave1 S rfl rfl H.f_uAdd rfl; (focus (walk_nrm; exact rfl)))
        | (co_apply sl_leave1 S rfl rfl H.f_uLoad rfl; (focus (walk_nrm; exact rfl)))
        | (co_apply sl_leave1 S rfl rfl H.f_uCas rfl; (focus (walk_nrm; exact rfl)))
        | (co_apply sl_leave0 S rfl rfl H.f_uStore rfl; (focus (walk_nrm; exact rfl)))
        | (co_apply sl_op S rfl rfl (by k_ne); (focus (intro W _ K hK; go_simp; (try w_num); exact hK)); (focus (intro W _; simp [go_sem, *])); (focus (walk_nrm; exact rfl))))
      rw [hY]
      refine ⟨0, fun w₄ h₁ => ?_⟩
      clear hY hZ S Y Z
      replace hK := fct_rely hK h₁
      clear h₁
      refine ⟨rfl, rfl, fun ⟨st, hw⟩ => stepG_semacquire_wait rfl rfl rfl H.f_semacquire (x_semacquire_n L) (x_semacquire_b L) (x_semacquire_x L) (x_semacquire_f L) (by simp [Act.eval, smA]) hw.cellSm, fun hf => ?_⟩
      refine ⟨_, (stepG_semacquire (n := 1) rfl rfl (by k_ne) rfl H.f_semacquire (x_semacquire_n L) (x_semacquire_b L) (x_semacquire_x L) (x_semacquire_f L) (by simp [Act.eval, smA]) hf.cellSm (by k_ne) (hf.thaw 1)).trans (by rfl), ?_⟩
      replace hK := hK.set _ _ (hf.setSm 0)
      clear hf
      generalize w₄.setCell (smA Wg) (.int .u32 0) = w₅ at hK ⊢
      walk_nrm
      obtain ⟨Y, hY⟩ : ∃ Y, Y = (fun bq aq kq cq => Go1 P true (RM L.tWg Wg) (DM Wg) (MW4 P L.tWg Wg Tail) w₅ (G (Frame.at bq aq kq) cq)) := ⟨_, rfl⟩
      obtain ⟨Z, hZ⟩ : ∃ Z, Z = (fun bq aq kq cq => Go1 P true (RM L.tWg Wg) (DM Wg) (MW4 P L.tWg Wg Tail) w₅ (G { Frame.at bq aq kq with mode := .returning } cq)) := ⟨_, rfl⟩
      have S : Sil P true ((RM L.tWg Wg) w₅) Y Z := by rw [hY, hZ]; exact sil_goes (P := P) (main := true) (R := (RM L.tWg Wg)) (D := (DM Wg)) (Stop := (MW4 P L.tWg Wg Tail)) (fun _ _ _ h g => h.trans g) (fun _ => dm_none (fun e he => by simp at he)) w₅
      suffices h : Y _ _ _ _ by rw [hY] at h; exact h
      repeat (first
        | refine sl_done S ?_
        | refine sl_seq S ?_
        | refine sl_skip S ?_
        | (co_apply sl_region S (by simp only [List.size_toArray, List.length_cons, List.length_nil, Nat.reduceAdd, Nat.zero_add, List.range, List.range.loop]; exact rfl))
        | refine sl_true S rfl ?_
        | refine sl_false S rfl ?_
        | refine sl_ret S ?_
        | refine sl_block S ?_
        | refine sl_loop S ?_
        | refine sl_inBlock S ?_
        | refine sl_inLoop S ?_
        | (refine sl_exit S (k' := _) rfl ?_)
        | refine sl_end S ?_
        | (co_apply sl_off S rfl rfl; (focus (walk_nrm; exact rfl)))
        | (co_apply sl_defer S rfl rfl (by k_ne) rfl; (focus (walk_nrm; exact rfl)))
        | (co_apply sl_call S rfl rfl (by k_ne) rfl H.f_uAdd (nm_uAdd L) rfl; (focus (walk_nrmf uAddFn; exact rfl)))
        | (co_apply sl_call S rfl rfl (by k_ne) rfl H.f_uLoad (nm_uLoad L) rfl; (focus (walk_nrmf uLoadFn; exact rfl)))
        | (co_apply sl_call S rfl rfl (by k_ne) rfl H.f_uStore (nm_uStore L) rfl; (focus (walk_nrmf uStoreFn; exact rfl)))
        | (co_apply sl_call S rfl rfl (by k_ne) rfl H.f_uCas (nm_uCas L) rfl; (focus (walk_nrmf uCasFn; exact rfl)))
        | (co_apply sl_entry S (.bool false) rfl rfl (by k_ne) rfl H.f_inBubble (x_inBubble_n L) (x_inBubble_b L) (x_inBubble_x L) (x_inBubble_f L); (focus (walk_nrm; exact rfl)))
        | (co_apply sl_leave1 S rfl rfl H.f_uAdd rfl; (focus (walk_nrm; exact rfl)))
        | (co_apply sl_leave1 S rfl rfl H.f_uLoad rfl; (focus (walk_nrm; exact rfl)))
        | (co_apply sl_leave1 S rfl rfl H.f_uCas rfl; (focus (walk_nrm; exact rfl)))
        | (co_apply sl_leave0 S rfl rfl H.f_uStore rfl; (focus (walk_nrm; exact rfl)))
        | (co_apply sl_op S rfl rfl (by k_ne); (focus (intro W _ K hK; go_simp; (try w_num); exact hK)); (focus (intro W _; simp [go_sem, *])); (focus (walk_nrm; exact rfl))))
      rw [hY]
      refine ⟨0, fun w₆ h₁ => ?_⟩
      clear hY hZ S Y Z
      replace hK := fct_rely hK h₁
      clear h₁
      refine ⟨rfl, fun hw => ⟨_, stepG_load_atomic (v := 0) rfl rfl (by k_ne) rfl H.f_loadU64 (x_loadU64_n L) (x_loadU64_b L) (x_loadU64_x L) .u64 (x_loadU64_f L) rfl hw.cellSt, ?_⟩⟩
      clear hw
      walk_nrm
      obtain ⟨Y, hY⟩ : ∃ Y, Y = (fun bq aq kq cq => Go1 P true (RM L.tWg Wg) (DM Wg) (MKe P L.tWg Wg Tail) w₆ (G (Frame.at bq aq kq) cq)) := ⟨_, rfl⟩
      obtain ⟨Z, hZ⟩ : ∃ Z, Z = (fun bq aq kq cq => Go1 P true (RM L.tWg Wg) (DM Wg) (MKe P L.tWg Wg Tail) w₆ (G { Frame.at bq aq kq with mode := .returning } cq)) := ⟨_, rfl⟩
      have S : Sil P true ((RM L.tWg Wg) w₆) Y Z := by rw [hY, hZ]; exact sil_goes (P := P) (main := true) (R := (RM L.tWg Wg)) (D := (DM Wg)) (Stop := (MKe P L.tWg Wg Tail)) (fun _ _ _ h g => h.trans g) (fun _ => dm_none (fun e he => by simp at he)) w₆
      suffices h : Y _ _ _ _ by rw [hY] at h; exact h
      repeat (first
        | refine sl_done S ?_
        | refine sl_seq S ?_
        | refine sl_skip S ?_
        | (co_apply sl_region S (by simp only [List.size_toArray, List.length_cons, List.length_nil, Nat.zero_add, List.range, List.range.loop]; exact rfl))
        | refine sl_true S rfl ?_
        | refine sl_false S rfl ?_
        | refine sl_ret S ?_
        | refine sl_block S ?_
        | refine sl_loop S ?_
        | refine sl_inBlock S ?_
        | refine sl_inLoop S ?_
        | (refine sl_exit S (k' := _) rfl ?_)
        | refine sl_end S ?_
        | (co_apply sl_off S rfl rfl; (focus (walk_nrm; exact rfl)))
        | (co_apply sl_defer S rfl rfl (by k_ne) rfl; (focus (walk_nrm; exact rfl)))
        | (co_apply sl_call S rfl rfl (by k_ne) rfl H.f_uAdd (nm_uAdd L) rfl; (focus (walk_nrmf uAddFn; exact rfl)))
        | (co_apply sl_call S rfl rfl (by k_ne) rfl H.f_uLoad (nm_uLoad L) rfl; (focus (walk_nrmf uLoadFn; exact rfl)))
        | (co_apply sl_call S rfl rfl (by k_ne) rfl H.f_uStore (nm_uStore L) rfl; (focus (walk_nrmf uStoreFn; exact rfl)))
        | (co_apply sl_call S rfl rfl (by k_ne) rfl H.f_uCas (nm_uCas L) rfl; (focus (walk_nrmf uCasFn; exact rfl)))
        | (co_apply sl_entry S (.bool false) rfl rfl (by k_ne) rfl H.f_inBubble (x_inBubble_n L) (x_inBubble_b L) (x_inBubble_x L) (x_inBubble_f L); (focus (walk_nrm; exact rfl)))
        | (co_apply sl_leave1 S rfl rfl H.f_uAdd rfl; (focus (walk_nrm; exact rfl)))
        | (co_apply sl_leave1 S rfl rfl H.f_uLoad rfl; (focus (walk_nrm; exact rfl)))
        | (co_apply sl_leave1 S rfl rfl H.f_uCas rfl; (focus (walk_nrm; exact rfl)))
        | (co_apply sl_leave0 S rfl rfl H.f_uStore rfl; (focus (walk_nrm; exact rfl)))
        | (co_apply sl_op S rfl rfl (by k_ne); (focus (intro W _ K hK; go_simp; (try w_num); exact hK)); (focus (intro W _; simp [go_sem, *])); (focus (walk_nrm; exact rfl))))
      rw [hY]
      refine ⟨0, fun w₇ h₁ => ?_⟩
      clear hY hZ S Y Z
      replace hK := fct_rely hK h₁
      clear h₁
      refine ⟨rfl, _, stepG_mark0 .enable (by simp) rfl rfl (by k_ne) rfl H.f_enable (x_enable_n L) (x_enable_b L) (x_enable_x L) (x_enable_f L), ?_⟩
      walk_nrm
      obtain ⟨Y, hY⟩ : ∃ Y, Y = (fun bq aq kq cq => Go1 P true (RM L.tWg Wg) (DM Wg) (MAcq P L.tWg Wg Tail) w₇ (G (Frame.at bq aq kq) cq)) := ⟨_, rfl⟩
      obtain ⟨Z, hZ⟩ : ∃ Z, Z = (fun bq aq kq cq => Go1 P true (RM L.tWg Wg) (DM Wg) (MAcq P L.tWg Wg Tail) w₇ (G { Frame.at bq aq kq with mode := .returning } cq)) := ⟨_, rfl⟩
      have S : Sil P true ((RM L.tWg Wg) w₇) Y Z := by rw [hY, hZ]; exact sil_goes (P := P) (main := true) (R := (RM L.tWg Wg)) (D := (DM Wg)) (Stop := (MAcq P L.tWg Wg Tail)) (fun _ _ _ h g => h.trans g) (fun _ => dm_none (fun e he => by simp at he)) w₇
      suffices h : Y _ _ _ _ by rw [hY] at h; exact h
      repeat (first
        | refine sl_done S ?_
        | refine sl_seq S ?_
        | refine sl_skip S ?_
        | (co_apply sl_region S (by simp only [List.size_toArray, List.length_cons, List.length_nil, Nat.reduceAdd, Nat.zero_add, List.range, List.range.loop]; exact rfl))
        | refine sl_true S rfl ?_
        | refine sl_false S rfl ?_
        | refine sl_ret S ?_
        | refine sl_block S ?_
        | refine sl_loop S ?_
        | refine sl_inBlock S ?_
        | refine sl_inLoop S ?_
        | (refine sl_exit S (k' := _) rfl ?_)
        | refine sl_end S ?_
        | (co_apply sl_off S rfl rfl; (focus (walk_nrm; exact rfl)))
        | (co_apply sl_defer S rfl rfl (by k_ne) rfl; (focus (walk_nrm; exact rfl)))
        | (co_apply sl_call S rfl rfl (by k_ne) rfl H.f_uAdd (nm_uAdd L) rfl; (focus (walk_nrmf uAddFn; exact rfl)))
        | (co_apply sl_call S rfl rfl (by k_ne) rfl H.f_uLoad (nm_uLoad L) rfl; (focus (walk_nrmf uLoadFn; exact rfl)))
        | (co_apply sl_call S rfl rfl (by k_ne) rfl H.f_uStore (nm_uStore L) rfl; (focus (walk_nrmf uStoreFn; exact rfl)))
        | (co_apply sl_call S rfl rfl (by k_ne) rfl H.f_uCas (nm_uCas L) rfl; (focus (walk_nrmf uCasFn; exact rfl)))
        | (co_apply sl_entry S (.bool false) rfl rfl (by k_ne) rfl H.f_inBubble (x_inBubble_n L) (x_inBubble_b L) (x_inBubble_x L) (x_inBubble_f L); (focus (walk_nrm; exact rfl)))
        | (co_apply sl_leave1 S rfl rfl H.f_uAdd rfl; (focus (walk_nrm; exact rfl)))
        | (co_apply sl_leave1 S rfl rfl H.f_uLoad rfl; (focus (walk_nrm; exact rfl)))
        | (co_apply sl_leave1 S rfl rfl H.f_uCas rfl; (focus (walk_nrm; exact rfl)))
        | (co_apply sl_leave0 S rfl rfl H.f_uStore rfl; (focus (walk_nrm; exact rfl)))
        | (co_apply sl_op S rfl rfl (by k_ne); (focus (intro W _ K hK; go_simp; (try w_num); exact hK)); (focus (intro W _; simp [go_sem, *])); (focus (walk_nrm; exact rfl))))
      co_apply sl_conv S rfl rfl (by k_ne) rfl rfl H.underlying_tWgP H.underlying_tUP H.room_tWg (fun w₁ r => Fct.cell0 (fct_rely hK r))
      · walk_nrm; exact rfl
      rw [hY]
      refine ⟨0, fun w₈ h₁ => ?_⟩
      clear hY hZ S Y Z
      replace hK := fct_rely hK h₁
      clear h₁
      refine ⟨rfl, _, stepG_markAt .acquire (by simp) rfl rfl (by k_ne) rfl H.f_acquire (x_acquire_n L) (x_acquire_b L) (x_acquire_x L) (x_acquire_f L) (by simp [Act.eval, stA]), ?_⟩
      walk_nrm
      obtain ⟨Y, hY⟩ : ∃ Y, Y = (fun bq aq kq cq => Go1 P true (RM L.tWg Wg) (DM Wg) Tail w₈ (G (Frame.at bq aq kq) cq)) := ⟨_, rfl⟩
      obtain ⟨Z, hZ⟩ : ∃ Z, Z = (fun bq aq kq cq => Go1 P true (RM L.tWg Wg) (DM Wg) Tail w₈ (G { Frame.at bq aq kq with mode := .returning } cq)) := ⟨_, rfl⟩
      have S : Sil P true ((RM L.tWg Wg) w₈) Y Z := by rw [hY, hZ]; exact sil_goes (P := P) (main := true) (R := (RM L.tWg Wg)) (D := (DM Wg)) (Stop := Tail) (fun _ _ _ h g => h.trans g) (fun _ => dm_none (fun e he => by simp at he)) w₈
      suffices h : Y _ _ _ _ by rw [hY] at h; exact h
      repeat (first
        | refine sl_done S ?_
        | refine sl_seq S ?_
        | refine sl_skip S ?_
        | (co_apply sl_region S (by simp only [List.size_toArray, List.length_cons, List.length_nil, Nat.zero_add, List.range, List.range.loop]; exact rfl))
        | refine sl_true S rfl ?_
        | refine sl_false S rfl ?_
        | refine sl_ret S ?_
        | refine sl_block S ?_
        | refine sl_loop S ?_
        | refine sl_inBlock S ?_
        | refine sl_inLoop S ?_
        | (refine sl_exit S (k' := _) rfl ?_)
        | refine sl_end S ?_
        | (co_apply sl_off S rfl rfl; (focus (walk_nrm; exact rfl)))
        | (co_apply sl_defer S rfl rfl (by k_ne) rfl; (focus (walk_nrm; exact rfl)))
        | (co_apply sl_call S rfl rfl (by k_ne) rfl H.f_uAdd (nm_uAdd L) rfl; (focus (walk_nrmf uAddFn; exact rfl)))
        | (co_apply sl_call S rfl rfl (by k_ne) rfl H.f_uLoad (nm_uLoad L) rfl; (focus (walk_nrmf uLoadFn; exact rfl)))
        | (co_apply sl_call S rfl rfl (by k_ne) rfl H.f_uStore (nm_uStore L) rfl; (focus (walk_nrmf uStoreFn; exact rfl)))
        | (co_apply sl_call S rfl rfl (by k_ne) rfl H.f_uCas (nm_uCas L) rfl; (focus (walk_nrmf uCasFn; exact rfl)))
        | (co_apply sl_entry S (.bool false) rfl rfl (by k_ne) rfl H.f_inBubble (x_inBubble_n L) (x_inBubble_b L) (x_inBubble_x L) (x_inBubble_f L); (focus (walk_nrm; exact rfl)))
        | (co_apply sl_leave1 S rfl rfl H.f_uAdd rfl; (focus (walk_nrm; exact rfl)))
        | (co_apply sl_leave1 S rfl rfl H.f_uLoad rfl; (focus (walk_nrm; exact rfl)))
        | (co_apply sl_leave1 S rfl rfl H.f_uCas rfl; (focus (walk_nrm; exact rfl)))
        | (co_apply sl_leave0 S rfl rfl H.f_uStore rfl; (focus (walk_nrm; exact rfl)))
        | (co_apply sl_op S rfl rfl (by k_ne); (focus (intro W _ K hK; go_simp; (try w_num); exact hK)); (focus (intro W _; simp [go_sem, *])); (focus (walk_nrm; exact rfl))))
      refine sl_leave0 S rfl rfl H.f_wait rfl rfl ?_
      rw [hY]
      exact hT _ hK
    · -- it misses
      refine ⟨_, stepG_cas_miss (v := (v' : Int) * KK) (old := X) (n := X + 1) rfl rfl (by k_ne) rfl H.f_casU64 (x_casU64_n L) (x_casU64_b L) (x_casU64_x L) .u64 (x_casU64_f L) rfl rfl rfl hw.cellSt (hw.thaw 0) (by rw [← hS]; simp only [KK]; omega), ?_⟩
      clear hw
      walk_nrm
      obtain ⟨Y, hY⟩ : ∃ Y, Y = (fun bq aq kq cq => Go1 P true (RM L.tWg Wg) (DM Wg) (AnchM L N Wg (b₀.at a₀ (.inRegion ops₀ (i₀ :: rest₀) :: k₀)) cs) w₂ (G (Frame.at bq aq kq) cq)) := ⟨_, rfl⟩
      obtain ⟨Z, hZ⟩ : ∃ Z, Z = (fun bq aq kq cq => Go1 P true (RM L.tWg Wg) (DM Wg) (AnchM L N Wg (b₀.at a₀ (.inRegion ops₀ (i₀ :: rest₀) :: k₀)) cs) w₂ (G { Frame.at bq aq kq with mode := .returning } cq)) := ⟨_, rfl⟩
      have S : Sil P true ((RM L.tWg Wg) w₂) Y Z := by rw [hY, hZ]; exact sil_goes (P := P) (main := true) (R := (RM L.tWg Wg)) (D := (DM Wg)) (Stop := (AnchM L N Wg (b₀.at a₀ (.inRegion ops₀ (i₀ :: rest₀) :: k₀)) cs)) (fun _ _ _ h g => h.trans g) (fun _ => dm_none (fun e he => by simp at he)) w₂
      suffices h : Y _ _ _ _ by rw [hY] at h; exact h
      iterate 9 (first
        | refine sl_done S ?_
        | refine sl_seq S ?_
        | refine sl_skip S ?_
        | (co_apply sl_region S (by simp only [List.size_toArray, List.length_cons, List.length_nil, Nat.reduceAdd, Nat.zero_add, List.range, List.range.loop]; exact rfl))
        | refine sl_true S rfl ?_
        | refine sl_false S rfl ?_
        | refine sl_ret S ?_
        | refine sl_block S ?_
              | refine sl_inBlock S ?_
        | refine sl_inLoop S ?_
        | (refine sl_exit S (k' := _) rfl ?_)
        | refine sl_end S ?_
        | (co_apply sl_off S rfl rfl; (focus (walk_nrm; exact rfl)))
        | (co_apply sl_defer S rfl rfl (by k_ne) rfl; (focus (walk_nrm; exact rfl)))
        | (co_apply sl_call S rfl rfl (by k_ne) rfl H.f_uAdd (nm_uAdd L) rfl; (focus (walk_nrmf uAddFn; exact rfl)))
        | (co_apply sl_call S rfl rfl (by k_ne) rfl H.f_uLoad (nm_uLoad L) rfl; (focus (walk_nrmf uLoadFn; exact rfl)))
        | (co_apply sl_call S rfl rfl (by k_ne) rfl H.f_uStore (nm_uStore L) rfl; (focus (walk_nrmf uStoreFn; exact rfl)))
        | (co_apply sl_call S rfl rfl (by k_ne) rfl H.f_uCas (nm_uCas L) rfl; (focus (walk_nrmf uCasFn; exact rfl)))
        | (co_apply sl_entry S (.bool false) rfl rfl (by k_ne) rfl H.f_inBubble (x_inBubble_n L) (x_inBubble_b L) (x_inBubble_x L) (x_inBubble_f L); (focus (walk_nrm; exact rfl)))
        | (co_apply sl_leave1 S rfl rfl H.f_uAdd rfl; (focus (walk_nrm; exact rfl)))
        | (co_apply sl_leave1 S rfl rfl H.f_uLoad rfl; (focus (walk_nrm; exact rfl)))
        | (co_apply sl_leave1 S rfl rfl H.f_uCas rfl; (focus (walk_nrm; exact rfl)))
        | (co_apply sl_leave0 S rfl rfl H.f_uStore rfl; (focus (walk_nrm; exact rfl)))
        | (co_apply sl_op S rfl rfl (by k_ne); (focus (intro W _ K hK; go_simp; (try w_num); exact hK)); (focus (intro W _; simp [go_sem, *])); (focus (walk_nrm; exact rfl))))
      rw [hY]
      refine ⟨0, fun w₃ h₁ => ?_⟩
      clear hY hZ S Y Z
      replace hK := fct_rely hK h₁
      clear h₁
      exact ⟨_, rfl, by simp, by simp, hK⟩
theorem wait_start {P : Program} (H : WgLib P L) (w : World) (hK : Fct L.tWg Wg N w) :
    Go1 P true (RM L.tWg Wg) (DM Wg) (MKd P L.tWg Wg (AnchM L N Wg (b₀.at a₀ (.inRegion ops₀ (i₀ :: rest₀) :: k₀)) cs)) w (G ((base L.wait).at ⟨#[.pointer (some ⟨Wg, 0, none⟩), undef, undef, undef, undef, undef, undef, undef, undef, undef, undef, undef, undef, undef, undef, undef, undef, undef, undef, undef, undef, undef, undef, undef, undef, undef, undef, undef, undef, undef, undef, undef, undef, undef, undef, undef, undef, undef, undef, undef, undef, undef, undef, undef, undef, undef, undef, undef, undef, undef, undef, undef, undef, undef, undef, undef, undef, undef, undef, undef, undef, undef, undef, undef, undef, undef, undef, undef, undef, undef, undef, undef, undef, undef, undef, undef, undef, undef, undef, undef, undef, undef, undef, undef], []⟩ [.code (body_wait L)]) (b₀.at a₀ (.inRegion ops₀ (i₀ :: rest₀) :: k₀) :: cs)) := by
  lib_facts
  simp only [body_wait, waitFn, Option.getD_some]
  obtain ⟨Y, hY⟩ : ∃ Y, Y = (fun bq aq kq cq => Go1 P true (RM L.tWg Wg) (DM Wg) (MKd P L.tWg Wg (AnchM L N Wg (b₀.at a₀ (.inRegion ops₀ (i₀ :: rest₀) :: k₀)) cs)) w (G (Frame.at bq aq kq) cq)) := ⟨_, rfl⟩
  obtain ⟨Z, hZ⟩ : ∃ Z, Z = (fun bq aq kq cq => Go1 P true (RM L.tWg Wg) (DM Wg) (MKd P L.tWg Wg (AnchM L N Wg (b₀.at a₀ (.inRegion ops₀ (i₀ :: rest₀) :: k₀)) cs)) w (G { Frame.at bq aq kq with mode := .returning } cq)) := ⟨_, rfl⟩
  have S : Sil P true ((RM L.tWg Wg) w) Y Z := by rw [hY, hZ]; exact sil_goes (P := P) (main := true) (R := (RM L.tWg Wg)) (D := (DM Wg)) (Stop := (MKd P L.tWg Wg (AnchM L N Wg (b₀.at a₀ (.inRegion ops₀ (i₀ :: rest₀) :: k₀)) cs))) (fun _ _ _ h g => h.trans g) (fun _ => dm_none (fun e he => by simp at he)) w
  suffices h : Y _ _ _ _ by rw [hY] at h; exact h
  repeat (first
    | refine sl_done S ?_
    | refine sl_seq S ?_
    | refine sl_skip S ?_
    | (co_apply sl_region S (by simp only [List.size_toArray, List.length_cons, List.length_nil, Nat.zero_add, List.range, List.range.loop]; exact rfl))
    | refine sl_true S rfl ?_
    | refine sl_false S rfl ?_
    | refine sl_ret S ?_
    | refine sl_block S ?_
    | refine sl_loop S ?_
    | refine sl_inBlock S ?_
    | refine sl_inLoop S ?_
    | (refine sl_exit S (k' := _) rfl ?_)
    | refine sl_end S ?_
    | (co_apply sl_off S rfl rfl; (focus (walk_nrm; exact rfl)))
    | (co_apply sl_defer S rfl rfl (by k_ne) rfl; (focus (walk_nrm; exact rfl)))
    | (co_apply sl_call S rfl rfl (by k_ne) rfl H.f_uAdd (nm_uAdd L) rfl; (focus (walk_nrmf uAddFn; exact rfl)))
    | (co_apply sl_call S rfl rfl (by k_ne) rfl H.f_uLoad (nm_uLoad L) rfl; (focus (walk_nrmf uLoadFn; exact rfl)))
    | (co_apply sl_call S rfl rfl (by k_ne) rfl H.f_uStore (nm_uStore L) rfl; (focus (walk_nrmf uStoreFn; exact rfl)))
    | (co_apply sl_call S rfl rfl (by k_ne) rfl H.f_uCas (nm_uCas L) rfl; (focus (walk_nrmf uCasFn; exact rfl)))
    | (co_apply sl_entry S (.bool false) rfl rfl (by k_ne) rfl H.f_inBubble (x_inBubble_n L) (x_inBubble_b L) (x_inBubble_x L) (x_inBubble_f L); (focus (walk_nrm; exact rfl)))
    | (co_apply sl_leave1 S rfl rfl H.f_uAdd rfl; (focus (walk_nrm; exact rfl)))
    | (co_apply sl_leave1 S rfl rfl H.f_uLoad rfl; (focus (walk_nrm; exact rfl)))
    | (co_apply sl_leave1 S rfl rfl H.f_uCas rfl; (focus (walk_nrm; exact rfl)))
    | (co_apply sl_leave0 S rfl rfl H.f_uStore rfl; (focus (walk_nrm; exact rfl)))
    | (co_apply sl_op S rfl rfl (by k_ne); (focus (intro W _ K hK; go_simp; (try w_num); exact hK)); (focus (intro W _; simp [go_sem, *])); (focus (walk_nrm; exact rfl))))
  rw [hY]
  refine ⟨0, fun w₁ h₁ => ?_⟩
  clear hY hZ S Y Z
  replace hK := fct_rely hK h₁
  clear h₁
  refine ⟨rfl, _, stepG_mark0 .disable (by simp) rfl rfl (by k_ne) rfl H.f_disable (x_disable_n L) (x_disable_b L) (x_disable_x L) (x_disable_f L), ?_⟩
  walk_nrm
  obtain ⟨Y, hY⟩ : ∃ Y, Y = (fun bq aq kq cq => Go1 P true (RM L.tWg Wg) (DM Wg) (AnchM L N Wg (b₀.at a₀ (.inRegion ops₀ (i₀ :: rest₀) :: k₀)) cs) w₁ (G (Frame.at bq aq kq) cq)) := ⟨_, rfl⟩
  obtain ⟨Z, hZ⟩ : ∃ Z, Z = (fun bq aq kq cq => Go1 P true (RM L.tWg Wg) (DM Wg) (AnchM L N Wg (b₀.at a₀ (.inRegion ops₀ (i₀ :: rest₀) :: k₀)) cs) w₁ (G { Frame.at bq aq kq with mode := .returning } cq)) := ⟨_, rfl⟩
  have S : Sil P true ((RM L.tWg Wg) w₁) Y Z := by rw [hY, hZ]; exact sil_goes (P := P) (main := true) (R := (RM L.tWg Wg)) (D := (DM Wg)) (Stop := (AnchM L N Wg (b₀.at a₀ (.inRegion ops₀ (i₀ :: rest₀) :: k₀)) cs)) (fun _ _ _ h g => h.trans g) (fun _ => dm_none (fun e he => by simp at he)) w₁
  suffices h : Y _ _ _ _ by rw [hY] at h; exact h
  refine sl_done S (sl_block S (sl_loop S ?_))
  rw [hY]
  refine ⟨0, fun w₂ h₁ => ?_⟩
  clear hY hZ S Y Z
  replace hK := fct_rely hK h₁
  clear h₁
  exact ⟨_, rfl, by simp, by simp, hK⟩
end
end Go.Proofs.Ytebgcemglicjiaa
