/- The law CrewOpens where no hand is started (hands out of range, or too long a list): it returns true. No condition of ours. -/
import Derived.Test.YtebgcemglicjiaaCvJc
import Derived.Conc.SmallLaws
import Derived.Conc.AppendWalk
import Derived.Test.YtebgcemglicjiaaOwJa
/- The starter alone: from the law's entry to the loop that starts the hands. Printed by gen_cvm.py. No condition of ours. -/
namespace Go.Proofs.Ytebgcemglicjiaa
open Go.Conc Go.ConcN Go.RowKit Go.Conc.Lib
open Go.ConcR (WgAt)
noncomputable def r0A : Code := match body8 with | .seq c _ => c | _ => .skip
noncomputable def r1A : Code := match body8 with | .seq _ (.seq c _) => c | _ => .skip
noncomputable def r2A : Code := match body8 with | .seq _ (.seq _ (.seq c _)) => c | _ => .skip
noncomputable def r3A : Code := match body8 with | .seq _ (.seq _ (.seq _ (.seq (.seq c _) _))) => c | _ => .skip
theorem body8_eq : body8 = .seq r0A (.seq r1A (.seq r2A (.seq (.seq r3A (.block 0 (.loop PL))) finP))) := by kernel_rfl
theorem mk_slice {n : Nat} (h : n ≤ 16) : ∃ co : Array Value, co.size = 2 * n ∧ ∀ w, (Instr.makeSlice 31 (.int .i64 n) (.int .i64 n)).run Try.prog w = .ok (.slice (some ⟨w.heap.size, 0, none⟩) n n) (w.alloc (.cells co 34)) ∧ ∀ es, (Instr.makeSlice 31 (.int .i64 n) (.int .i64 n)).events Try.prog w es = es := by
  obtain ⟨i, hi, hii⟩ := Option.map_eq_some_iff.1 (show (Try.prog.info? 34).map (fun i => (i.zero, i.size, i.bytes)) = some (some (.agg #[.string ⟨#[]⟩, .int .i64 0]), 2, 24) by kernel_rfl)
  simp only [Prod.mk.injEq] at hii
  obtain ⟨hz, hsz, hby⟩ := hii
  refine ⟨madeCells (Value.agg #[.string ⟨#[]⟩, .int .i64 0]).cells (n * 2), by rw [size_madeCells]; omega, fun w => ⟨?_, fun es => ?_⟩⟩
  · have := run_make (P := Try.prog) (w := w) 31 34 i _ Try.underlying31 hi hz .i64 .i64 n n (by omega) (by omega) (by rw [hby]; omega) (by omega)
    rw [hsz, Int.toNat_natCast] at this
    exact this
  · exact events_make (P := Try.prog) w 31 34 i _ Try.underlying31 hi hz .i64 .i64 n n (by omega) (by omega) (by rw [hby]; omega) (by omega) (by rw [hby, Int.toNat_natCast]; omega) es
theorem mk_chan {n : Nat} (h : n ≤ 16) : ∀ w, (Instr.makeChan 43 (.int .i64 n)).run Try.prog w = .ok (.chan (some w.heap.size)) (w.alloc (.chan n #[] false 0 0 false)) ∧ ∀ es, (Instr.makeChan 43 (.int .i64 n)).events Try.prog w es = es := by
  obtain ⟨i, hi, hby⟩ := Option.map_eq_some_iff.1 (show (Try.prog.info? 45).map (fun i => i.bytes) = some 24 by kernel_rfl)
  exact fun w => ⟨run_makeChan (P := Try.prog) Try.underlying43 hi .i64 n (by omega) (by rw [hby]; omega), fun es => events_makeChan (P := Try.prog) Try.underlying43 hi .i64 n (by omega) (by rw [hby]; omega) es⟩
section
variable {a0 : Option Addr} {N n c0 h : Nat} {Tg : Goroutine → World → Prop} {ts : Nat → ByteArray} {W : World} {cs : List Frame}
set_option maxRecDepth 100000 in
set_option maxHeartbeats 8000000 in
theorem pre_all (hN : W.heap.size = N) (hrow : ∀ i, i < n → ∃ b o, a0 = some ⟨b, o, none⟩ ∧ b < N ∧ W.cell? ⟨b, o + i, none⟩ = some (.string (ts i))) (n16 : n ≤ 16)
    (hk : ∀ w T, Ready W N n ts w → SlotsR N h T → To Try.prog (N + 5) (N + 1) Tg (G ((base 8).at ⟨T, []⟩ [.code sloop, .inLoop sloop, .inBlock 2, .code sfin]) cs) w) :
    To Try.prog (N + 5) (N + 1) Tg (G ((base 8).at ⟨#[.slice a0 n c0, .int .i64 h, .func (.func 9) #[] #[], undef, undef, undef, undef, undef, undef, undef, undef, undef, undef, undef, undef, undef, undef, undef, undef, undef, undef, undef, undef, undef, undef, undef, undef, undef, undef, undef, undef, undef, undef, undef, undef, undef, undef, undef, undef], []⟩ [.code body8]) cs) W := by
  have fill := fun w T => pre_fill (a0 := a0) (N := N) (n := n) (c0 := c0) (h := h) (Tg := Tg) (ts := ts) (W := W) (cs := cs) hrow n16 (fun w T hw s0 t1 t5 t7 t8 => pre_last hw s0 t1 t5 t7 t8 hk) n 0 (by omega) w T
  clear hk hrow
  obtain ⟨co, hco, mkS⟩ := mk_slice n16
  have mkC := mk_chan n16
  have pf0 : PF W N 0 W := hN ▸ PF.refl W
  rw [body8_eq]
  simp only [r0A, r1A, r2A, r3A, body8, Try.f8, Option.getD_some]
  generalize finP = FP at fill ⊢
  generalize PL = QL at fill ⊢
  obtain ⟨Y, hY⟩ : ∃ Y, Y = (fun bq aq kq cq => To Try.prog (N + 5) (N + 1) Tg (G (Frame.at bq aq kq) cq) W) := ⟨_, rfl⟩
  obtain ⟨Z, hZ⟩ : ∃ Z, Z = (fun bq aq kq cq => To Try.prog (N + 5) (N + 1) Tg (G { Frame.at bq aq kq with mode := .returning } cq) W) := ⟨_, rfl⟩
  have S : Sil Try.prog true (Is W) Y Z := by rw [hY, hZ]; exact sil_to W
  suffices h : Y _ _ _ _ by rw [hY] at h; exact h
  repeat (first
    | refine sl_done S ?_
    | refine sl_seq S ?_
    | refine sl_skip S ?_
    | (co_apply sl_region S (by simp only [List.size_toArray, List.length_cons, List.length_nil, Nat.reduceAdd, Nat.zero_add, List.range, List.range.loop]; exact rfl))
    | refine sl_true S rfl ?_
    | refine sl_false S rfl ?_
    | refine sl_ret S ?_
    | refine sl_block S ?_
    | refine sl_loop S ?_
    | refine sl_inBlock S ?_
    | (refine sl_exit S (k' := _) rfl ?_)
    | refine sl_end S ?_
    | (co_apply sl_off S rfl rfl; (focus (walk_nrm; exact rfl)))
    | (co_apply sl_op S rfl rfl (by k_ne); (focus (intro W _ K hK; go_simp; (try w_num); exact hK)); (focus (intro W _; simp [go_sem, *])); (focus (walk_nrm; exact rfl))))
  rw [hY]
  clear hY hZ S Y Z
  have hsz := pf0.size
  refine to_mem (v := .pointer (some ⟨W.heap.size, 0, none⟩)) (w' := W.alloc (.cells #[.func (.func 9) #[] #[]] 27)) rfl rfl (by k_ne) (.inl (by go_simp)) (by rw [(alloc_at _ _).2]; omega) (fun e he => by simp [go_sem] at he) ?_
  obtain ⟨pf1, b0, keep⟩ := pf0.alloc (.cells #[.func (.func 9) #[] #[]] 27)
  rw [hsz]
  clear keep hsz pf0
  generalize W.alloc (.cells #[.func (.func 9) #[] #[]] 27) = w1 at pf1 b0 ⊢
  walk_nrm
  obtain ⟨Y, hY⟩ : ∃ Y, Y = (fun bq aq kq cq => To Try.prog (N + 5) (N + 1) Tg (G (Frame.at bq aq kq) cq) w1) := ⟨_, rfl⟩
  obtain ⟨Z, hZ⟩ : ∃ Z, Z = (fun bq aq kq cq => To Try.prog (N + 5) (N + 1) Tg (G { Frame.at bq aq kq with mode := .returning } cq) w1) := ⟨_, rfl⟩
  have S : Sil Try.prog true (Is w1) Y Z := by rw [hY, hZ]; exact sil_to w1
  suffices h : Y _ _ _ _ by rw [hY] at h; exact h
  repeat (first
    | refine sl_done S ?_
    | refine sl_seq S ?_
    | refine sl_skip S ?_
    | (co_apply sl_region S (by simp only [List.size_toArray, List.length_cons, List.length_nil, Nat.reduceAdd, Nat.zero_add, List.range, List.range.loop]; exact rfl))
    | refine sl_true S rfl ?_
    | refine sl_false S rfl ?_
    | refine sl_ret S ?_
    | refine sl_block S ?_
    | refine sl_loop S ?_
    | refine sl_inBlock S ?_
    | (refine sl_exit S (k' := _) rfl ?_)
    | refine sl_end S ?_
    | (co_apply sl_off S rfl rfl; (focus (walk_nrm; exact rfl)))
    | (co_apply sl_op S rfl rfl (by k_ne); (focus (intro W _ K hK; go_simp; (try w_num); exact hK)); (focus (intro W _; simp [go_sem, *])); (focus (walk_nrm; exact rfl))))
  rw [hY]
  clear hY hZ S Y Z
  have hsz := pf1.size
  obtain ⟨m1, m2⟩ := mkS w1
  refine to_mem (v := .slice (some ⟨w1.heap.size, 0, none⟩) n n) (w' := w1.alloc (.cells co 34)) rfl rfl (by k_ne) (.inl (by go_simp)) (by rw [(alloc_at _ _).2]; omega) (fun e he => by simp [go_sem, m2] at he) ?_
  clear m1 m2
  obtain ⟨pf2, b1, keep⟩ := pf1.alloc (.cells co 34)
  replace b0 := keep _ _ b0
  rw [hsz]
  clear keep hsz pf1
  generalize w1.alloc (.cells co 34) = w2 at pf2 b0 b1 ⊢
  walk_nrm
  obtain ⟨Y, hY⟩ : ∃ Y, Y = (fun bq aq kq cq => To Try.prog (N + 5) (N + 1) Tg (G (Frame.at bq aq kq) cq) w2) := ⟨_, rfl⟩
  obtain ⟨Z, hZ⟩ : ∃ Z, Z = (fun bq aq kq cq => To Try.prog (N + 5) (N + 1) Tg (G { Frame.at bq aq kq with mode := .returning } cq) w2) := ⟨_, rfl⟩
  have S : Sil Try.prog true (Is w2) Y Z := by rw [hY, hZ]; exact sil_to w2
  suffices h : Y _ _ _ _ by rw [hY] at h; exact h
  repeat (first
    | refine sl_done S ?_
    | refine sl_seq S ?_
    | refine sl_skip S ?_
    | (co_apply sl_region S (by simp only [List.size_toArray, List.length_cons, List.length_nil, Nat.reduceAdd, Nat.zero_add, List.range, List.range.loop]; exact rfl))
    | refine sl_true S rfl ?_
    | refine sl_false S rfl ?_
    | refine sl_ret S ?_
    | refine sl_block S ?_
    | refine sl_loop S ?_
    | refine sl_inBlock S ?_
    | (refine sl_exit S (k' := _) rfl ?_)
    | refine sl_end S ?_
    | (co_apply sl_off S rfl rfl; (focus (walk_nrm; exact rfl)))
    | (co_apply sl_op S rfl rfl (by k_ne); (focus (intro W _ K hK; go_simp; (try w_num); exact hK)); (focus (intro W _; simp [go_sem, *])); (focus (walk_nrm; exact rfl))))
  rw [hY]
  clear hY hZ S Y Z
  have hsz := pf2.size
  refine to_mem (v := .pointer (some ⟨w2.heap.size, 0, none⟩)) (w' := w2.alloc (.cells #[.slice none 0 0] 31)) rfl rfl (by k_ne) (.inl (by go_simp)) (by rw [(alloc_at _ _).2]; omega) (fun e he => by simp [go_sem] at he) ?_
  obtain ⟨pf3, b2, keep⟩ := pf2.alloc (.cells #[.slice none 0 0] 31)
  replace b0 := keep _ _ b0
  replace b1 := keep _ _ b1
  rw [hsz]
  clear keep hsz pf2
  generalize w2.alloc (.cells #[.slice none 0 0] 31) = w3 at pf3 b0 b1 b2 ⊢
  walk_nrm
  obtain ⟨Y, hY⟩ : ∃ Y, Y = (fun bq aq kq cq => To Try.prog (N + 5) (N + 1) Tg (G (Frame.at bq aq kq) cq) w3) := ⟨_, rfl⟩
  obtain ⟨Z, hZ⟩ : ∃ Z, Z = (fun bq aq kq cq => To Try.prog (N + 5) (N + 1) Tg (G { Frame.at bq aq kq with mode := .returning } cq) w3) := ⟨_, rfl⟩
  have S : Sil Try.prog true (Is w3) Y Z := by rw [hY, hZ]; exact sil_to w3
  suffices h : Y _ _ _ _ by rw [hY] at h; exact h
  repeat (first
    | refine sl_done S ?_
    | refine sl_seq S ?_
    | refine sl_skip S ?_
    | (co_apply sl_region S (by simp only [List.size_toArray, List.length_cons, List.length_nil, Nat.reduceAdd, Nat.zero_add, List.range, List.range.loop]; exact rfl))
    | refine sl_true S rfl ?_
    | refine sl_false S rfl ?_
    | refine sl_ret S ?_
    | refine sl_block S ?_
    | refine sl_loop S ?_
    | refine sl_inBlock S ?_
    | (refine sl_exit S (k' := _) rfl ?_)
    | refine sl_end S ?_
    | (co_apply sl_off S rfl rfl; (focus (walk_nrm; exact rfl)))
    | (co_apply sl_op S rfl rfl (by k_ne); (focus (intro W _ K hK; go_simp; (try w_num); exact hK)); (focus (intro W _; simp [go_sem, *])); (focus (walk_nrm; exact rfl))))
  rw [hY]
  clear hY hZ S Y Z
  have hsz := pf3.size
  obtain ⟨hc, hfz⟩ := cell_one b2
  refine to_mem (v := undef) (w' := w3.setCell ⟨N + 2, 0, none⟩ (.slice (some ⟨N + 1, 0, none⟩) n n)) rfl rfl (by k_ne) (.inr ⟨by go_simp, rfl⟩) (by rw [set_one b2]; show w3.heap.size ≤ (w3.heap.setIfInBounds _ _).size; rw [Array.size_setIfInBounds]; exact Nat.le_refl _) (fun e he => by
    have hl : N + 2 < (w3.setCell ⟨N + 2, 0, none⟩ (.slice (some ⟨N + 1, 0, none⟩) n n)).heap.size := by rw [set_one b2]; show N + 2 < (w3.heap.setIfInBounds _ _).size; rw [Array.size_setIfInBounds]; omega
    simp [go_sem, hc, hfz] at he
    subst he
    exact evpre_cell hl (by show N + 2 ≠ _; omega) (by show N + 2 ≠ _; omega)) ?_
  rw [set_one b2]
  obtain ⟨pf3', put, keep⟩ := pf3.put (M := N + 2) (by omega) (.cells #[.slice (some ⟨N + 1, 0, none⟩) n n] 31)
  replace b0 := keep _ _ b0 (by omega)
  replace b1 := keep _ _ b1 (by omega)
  replace b2 := put _ b2
  clear put keep hsz hc hfz pf3
  have pf3 := pf3'
  clear pf3'
  generalize ({ w3 with heap := w3.heap.setIfInBounds (N + 2) (.cells #[.slice (some ⟨N + 1, 0, none⟩) n n] 31) } : World) = w4 at pf3 b0 b1 b2 ⊢
  walk_nrm
  obtain ⟨Y, hY⟩ : ∃ Y, Y = (fun bq aq kq cq => To Try.prog (N + 5) (N + 1) Tg (G (Frame.at bq aq kq) cq) w4) := ⟨_, rfl⟩
  obtain ⟨Z, hZ⟩ : ∃ Z, Z = (fun bq aq kq cq => To Try.prog (N + 5) (N + 1) Tg (G { Frame.at bq aq kq with mode := .returning } cq) w4) := ⟨_, rfl⟩
  have S : Sil Try.prog true (Is w4) Y Z := by rw [hY, hZ]; exact sil_to w4
  suffices h : Y _ _ _ _ by rw [hY] at h; exact h
  repeat (first
    | refine sl_done S ?_
    | refine sl_seq S ?_
    | refine sl_skip S ?_
    | (co_apply sl_region S (by simp only [List.size_toArray, List.length_cons, List.length_nil, Nat.reduceAdd, Nat.zero_add, List.range, List.range.loop]; exact rfl))
    | refine sl_true S rfl ?_
    | refine sl_false S rfl ?_
    | refine sl_ret S ?_
    | refine sl_block S ?_
    | refine sl_loop S ?_
    | refine sl_inBlock S ?_
    | (refine sl_exit S (k' := _) rfl ?_)
    | refine sl_end S ?_
    | (co_apply sl_off S rfl rfl; (focus (walk_nrm; exact rfl)))
    | (co_apply sl_op S rfl rfl (by k_ne); (focus (intro W _ K hK; go_simp; (try w_num); exact hK)); (focus (intro W _; simp [go_sem, *])); (focus (walk_nrm; exact rfl))))
  rw [hY]
  clear hY hZ S Y Z
  have hsz := pf3.size
  obtain ⟨m1, m2⟩ := mkC w4
  refine to_mem (v := .chan (some w4.heap.size)) (w' := w4.alloc (.chan n #[] false 0 0 false)) rfl rfl (by k_ne) (.inl (by go_simp)) (by rw [(alloc_at _ _).2]; omega) (fun e he => by simp [go_sem, m2] at he) ?_
  clear m1 m2
  obtain ⟨pf4, b3, keep⟩ := pf3.alloc (.chan n #[] false 0 0 false)
  replace b0 := keep _ _ b0
  replace b1 := keep _ _ b1
  replace b2 := keep _ _ b2
  rw [hsz]
  clear keep hsz pf3
  generalize w4.alloc (.chan n #[] false 0 0 false) = w5 at pf4 b0 b1 b2 b3 ⊢
  walk_nrm
  obtain ⟨Y, hY⟩ : ∃ Y, Y = (fun bq aq kq cq => To Try.prog (N + 5) (N + 1) Tg (G (Frame.at bq aq kq) cq) w5) := ⟨_, rfl⟩
  obtain ⟨Z, hZ⟩ : ∃ Z, Z = (fun bq aq kq cq => To Try.prog (N + 5) (N + 1) Tg (G { Frame.at bq aq kq with mode := .returning } cq) w5) := ⟨_, rfl⟩
  have S : Sil Try.prog true (Is w5) Y Z := by rw [hY, hZ]; exact sil_to w5
  suffices h : Y _ _ _ _ by rw [hY] at h; exact h
  repeat (first
    | refine sl_done S ?_
    | refine sl_seq S ?_
    | refine sl_skip S ?_
    | (co_apply sl_region S (by simp only [List.size_toArray, List.length_cons, List.length_nil, Nat.reduceAdd, Nat.zero_add, List.range, List.range.loop]; exact rfl))
    | refine sl_true S rfl ?_
    | refine sl_false S rfl ?_
    | refine sl_ret S ?_
    | refine sl_block S ?_
    | refine sl_loop S ?_
    | refine sl_inBlock S ?_
    | (refine sl_exit S (k' := _) rfl ?_)
    | refine sl_end S ?_
    | (co_apply sl_off S rfl rfl; (focus (walk_nrm; exact rfl)))
    | (co_apply sl_op S rfl rfl (by k_ne); (focus (intro W _ K hK; go_simp; (try w_num); exact hK)); (focus (intro W _; simp [go_sem, *])); (focus (walk_nrm; exact rfl))))
  rw [hY]
  clear hY hZ S Y Z
  have hsz := pf4.size
  refine to_mem (v := .pointer (some ⟨w5.heap.size, 0, none⟩)) (w' := w5.alloc (.cells #[.chan none] 43)) rfl rfl (by k_ne) (.inl (by go_simp)) (by rw [(alloc_at _ _).2]; omega) (fun e he => by simp [go_sem] at he) ?_
  obtain ⟨pf5, b4, keep⟩ := pf4.alloc (.cells #[.chan none] 43)
  replace b0 := keep _ _ b0
  replace b1 := keep _ _ b1
  replace b2 := keep _ _ b2
  replace b3 := keep _ _ b3
  rw [hsz]
  clear keep hsz pf4
  generalize w5.alloc (.cells #[.chan none] 43) = w6 at pf5 b0 b1 b2 b3 b4 ⊢
  walk_nrm
  obtain ⟨Y, hY⟩ : ∃ Y, Y = (fun bq aq kq cq => To Try.prog (N + 5) (N + 1) Tg (G (Frame.at bq aq kq) cq) w6) := ⟨_, rfl⟩
  obtain ⟨Z, hZ⟩ : ∃ Z, Z = (fun bq aq kq cq => To Try.prog (N + 5) (N + 1) Tg (G { Frame.at bq aq kq with mode := .returning } cq) w6) := ⟨_, rfl⟩
  have S : Sil Try.prog true (Is w6) Y Z := by rw [hY, hZ]; exact sil_to w6
  suffices h : Y _ _ _ _ by rw [hY] at h; exact h
  repeat (first
    | refine sl_done S ?_
    | refine sl_seq S ?_
    | refine sl_skip S ?_
    | (co_apply sl_region S (by simp only [List.size_toArray, List.length_cons, List.length_nil, Nat.reduceAdd, Nat.zero_add, List.range, List.range.loop]; exact rfl))
    | refine sl_true S rfl ?_
    | refine sl_false S rfl ?_
    | refine sl_ret S ?_
    | refine sl_block S ?_
    | refine sl_loop S ?_
    | refine sl_inBlock S ?_
    | (refine sl_exit S (k' := _) rfl ?_)
    | refine sl_end S ?_
    | (co_apply sl_off S rfl rfl; (focus (walk_nrm; exact rfl)))
    | (co_apply sl_op S rfl rfl (by k_ne); (focus (intro W _ K hK; go_simp; (try w_num); exact hK)); (focus (intro W _; simp [go_sem, *])); (focus (walk_nrm; exact rfl))))
  rw [hY]
  clear hY hZ S Y Z
  have hsz := pf5.size
  obtain ⟨hc, hfz⟩ := cell_one b4
  refine to_mem (v := undef) (w' := w6.setCell ⟨N + 4, 0, none⟩ (.chan (some (N + 3)))) rfl rfl (by k_ne) (.inr ⟨by go_simp, rfl⟩) (by rw [set_one b4]; show w6.heap.size ≤ (w6.heap.setIfInBounds _ _).size; rw [Array.size_setIfInBounds]; exact Nat.le_refl _) (fun e he => by
    have hl : N + 4 < (w6.setCell ⟨N + 4, 0, none⟩ (.chan (some (N + 3)))).heap.size := by rw [set_one b4]; show N + 4 < (w6.heap.setIfInBounds _ _).size; rw [Array.size_setIfInBounds]; omega
    simp [go_sem, hc, hfz] at he
    subst he
    exact evpre_cell hl (by show N + 4 ≠ _; omega) (by show N + 4 ≠ _; omega)) ?_
  rw [set_one b4]
  obtain ⟨pf5', put, keep⟩ := pf5.put (M := N + 4) (by omega) (.cells #[.chan (some (N + 3))] 43)
  replace b0 := keep _ _ b0 (by omega)
  replace b1 := keep _ _ b1 (by omega)
  replace b2 := keep _ _ b2 (by omega)
  replace b3 := keep _ _ b3 (by omega)
  replace b4 := put _ b4
  clear put keep hsz hc hfz pf5
  have pf5 := pf5'
  clear pf5'
  generalize ({ w6 with heap := w6.heap.setIfInBounds (N + 4) (.cells #[.chan (some (N + 3))] 43) } : World) = w7 at pf5 b0 b1 b2 b3 b4 ⊢
  walk_nrm
  obtain ⟨Y, hY⟩ : ∃ Y, Y = (fun bq aq kq cq => To Try.prog (N + 5) (N + 1) Tg (G (Frame.at bq aq kq) cq) w7) := ⟨_, rfl⟩
  obtain ⟨Z, hZ⟩ : ∃ Z, Z = (fun bq aq kq cq => To Try.prog (N + 5) (N + 1) Tg (G { Frame.at bq aq kq with mode := .returning } cq) w7) := ⟨_, rfl⟩
  have S : Sil Try.prog true (Is w7) Y Z := by rw [hY, hZ]; exact sil_to w7
  suffices h : Y _ _ _ _ by rw [hY] at h; exact h
  repeat (first
    | refine sl_done S ?_
    | refine sl_seq S ?_
    | refine sl_skip S ?_
    | (co_apply sl_region S (by simp only [List.size_toArray, List.length_cons, List.length_nil, Nat.reduceAdd, Nat.zero_add, List.range, List.range.loop]; exact rfl))
    | refine sl_true S rfl ?_
    | refine sl_false S rfl ?_
    | refine sl_ret S ?_
    | refine sl_block S ?_
    | refine sl_loop S ?_
    | refine sl_inBlock S ?_
    | (refine sl_exit S (k' := _) rfl ?_)
    | refine sl_end S ?_
    | (co_apply sl_off S rfl rfl; (focus (walk_nrm; exact rfl)))
    | (co_apply sl_op S rfl rfl (by k_ne); (focus (intro W _ K hK; go_simp; (try w_num); exact hK)); (focus (intro W _; simp [go_sem, *])); (focus (walk_nrm; exact rfl))))
  rw [hY]
  exact fill w7 _ ⟨pf5, ⟨_, b0⟩, ⟨co, b1, hco⟩, ⟨_, b2⟩, ⟨0, 0, b3⟩, ⟨_, b4⟩⟩ ⟨rfl, rfl, rfl, rfl, rfl, rfl, rfl, rfl⟩
end
end Go.Proofs.Ytebgcemglicjiaa

/- The whole run of the law CrewOpens where hands are started: on every tape it returns true. No condition of ours. -/
namespace Go.Proofs.Ytebgcemglicjiaa
open Go.Conc Go.ConcN Go.RowKit
open Go.ConcR (KK WgAt stA smA rd wr mk DC0 g_of_ofEvents)
/-- The hands' world. -/
def crewCfg (N n h : Nat) (ts tx : Nat → ByteArray) (er : Nat → Int) (w : World) : Cfg :=
  { ty := 54, Wg := N + 5, Ob := N + 1, Ch := N + 3, B := N + 6, oty := 34, n := n, h := h, cap := n, jobv := jobOf ts, ansA := fun a => .string (tx a), ansB := fun a => .int .i64 (er a), w0 := w }
def noHand : WX := ⟨⟨7, 0, 0⟩, fun _ => False, fun _ => False, .idle, .leaf⟩
theorem tc_start {c : Cfg} {t : Trace} {sz : Nat} (h : ∀ op ∈ t, Pre c.Wg c.Ob sz op) : TC c 0 t (fun _ => noHand) sz 0 0 false where
  ct := CT.lone (fun op hop => (h op hop).1) fun op hop x hx => by
    rintro ⟨ad, e, hw⟩
    rcases (h op hop).2.2.2.2 x hx with ⟨ad', e', _, _, h3⟩ | ⟨b, e', _⟩
    · rw [e] at e'; cases e'; exact h3 hw
    · rw [e] at e'; cases e'
  norel := fun i hi => by
    obtain ⟨op, ho, ha⟩ := Option.map_eq_some_iff.1 hi
    exact (h op (Array.mem_of_getElem? ho)).2.2.2.1 _ ha
  deaf0 := by
    have e := Deaf_still #[] 0 t fun op hop => ⟨(h op hop).2.1, (h op hop).2.2.1⟩
    rw [Array.empty_append] at e
    rw [e]; rfl
  deafW i hi := absurd hi (Nat.not_lt_zero i)
  rel i hi := absurd hi (Nat.not_lt_zero i)
  tb _ i a ha := by
    obtain ⟨op, ho, hx⟩ := touch_of ha
    rcases (h op (Array.mem_of_getElem? ho)).2.2.2.2 a hx with ⟨ad, e, h1, h2, _⟩ | ⟨b, e, h1⟩
    · rw [e]
      refine ⟨fun ad' e' => ?_, fun b e' => by cases e'⟩
      cases e'
      exact ⟨h1, fun e => absurd e h2⟩
    · rw [e]
      refine ⟨fun ad' e' => (by cases e'), fun b' e' => ?_⟩
      cases e'
      exact h1
  np i op x hi hx hs hg := absurd (h op (Array.mem_of_getElem? hi)).1 hg
/-- What the caller is told. -/
def FPost (W : World) (v : Value) (w : World) : Prop := v = .bool true ∧ w.os = W.os ∧ w.output = W.output ∧ ∀ b, b < W.heap.size → w.heap[b]? = W.heap[b]?
section
variable {a0 : Option Addr} {n c0 h : Nat} {ts tx : Nat → ByteArray} {er : Nat → Int} {W : World}
theorem crew_good (h1 : 1 ≤ h) (h8 : h ≤ 8) (n16 : n ≤ 16) (hrow : ∀ i, i < n → ∃ b o, a0 = some ⟨b, o, none⟩ ∧ b < W.heap.size ∧ W.cell? ⟨b, o + i, none⟩ = some (.string (ts i)))
    (hP : ∀ i, i < n → ∀ w, Calls Try.prog 9 #[.string (ts i)] w fun e _ => e = .returned (.tuple #[.string (tx i), .int .i64 (er i)]))
    (hR : ∀ i, i < n → ∀ w, Calls Try.prog 5 #[.string (ts i)] w fun e _ => e = .returned (.tuple #[.string (tx i), .int .i64 (er i)])) :
    ∃ M last o w' t', runNT Try.prog (M + 1) (solo (G (Frame.enter Try.prog 3 #[.slice a0 n c0, .int .i64 h] .normal) []) W) #[] = (.ended o w', t') ∧
      runN Try.prog M (solo (G (Frame.enter Try.prog 3 #[.slice a0 n c0, .int .i64 h] .normal) []) W) = .next last ∧ step Try.prog last = .ended o w' ∧ Go.Conc.Good Try.prog (FPost W) last o w' t' := by
  obtain ⟨N, hN⟩ : ∃ N, W.heap.size = N := ⟨_, rfl⟩
  have hto : To Try.prog (N + 5) (N + 1) (fun g w => ∃ T TO TL : Array Value, g = G ((base 8).at ⟨T, []⟩ [.code sloop, .inLoop sloop, .inBlock 2, .code sfin]) (waiting TO TL) ∧ Ready W N n ts w ∧ SlotsR N h T ∧ (TO.size = 36 ∧ TO[7]? = some (.slice none 0 0)) ∧ TL.size = 58 ∧ TL[0]? = some (.slice a0 n c0) ∧ TL[1]? = some (.int .i64 h)) (G (Frame.enter Try.prog 3 #[.slice a0 n c0, .int .i64 h] .normal) []) W :=
    pre_law fun TL s1 l0 l1 => pre_open h1 h8 n16 fun TO s2 o7 => pre_all hN (fun i hi => by rw [← hN]; exact hrow i hi) n16 fun w T hr hs => To.done ⟨T, TO, TL, rfl, hr, hs, ⟨s2, o7⟩, s1, l0, l1⟩
  obtain ⟨k0, g, w, t, hrun, ⟨T, TO, TL, rfl, R, S, ⟨so, o7⟩, sl, l0, l1⟩, hpre⟩   := hto #[] fun op hop => by simp at hop
  obtain ⟨pf, ⟨td, hbd⟩, ⟨co, hob, hos⟩, ⟨tb, hbo⟩, ⟨cs', cr, hch⟩, ⟨tj, hbj⟩, hwg⟩ := R
  have hsz := pf.size
  have hg : Try.prog.globals.size ≤ N + 6 := Nat.le_trans (show Try.prog.globals.size ≤ 6 from of_decide_eq_true (by kernel_rfl)) (by omega)
  have O : (crewCfg N n h ts tx er w).Ok := ⟨by show N + 5 < N + 6; omega, by show N + 1 < N + 6; omega, by show N + 3 < N + 6; omega, by show N + 5 ≠ N + 1; omega, by show N + 5 ≠ N + 3; omega, by show N + 1 ≠ N + 3; omega, by show h < 1000; omega⟩
  have rd : ∀ b, b < N + 6 → b ≠ N + 5 → b ≠ N + 1 → b ≠ N + 3 → (crewCfg N n h ts tx er w).Rd b := fun b q1 q2 q3 q4 => ⟨q1, q2, q3, q4⟩
  have H0 : Laid (crewCfg N n h ts tx er w) (N + 4) N (N + 2) ts :=
    { ok := O, rj := rd _ (by omega) (by omega) (by omega) (by omega), rd := rd _ (by omega) (by omega) (by omega) (by omega), ro := rd _ (by omega) (by omega) (by omega) (by omega),
      cj := (cell_one hbj).1, cd := (cell_one hbd).1, co := (cell_one hbo).1, ty := rfl, oty := rfl, job := fun a _ => rfl, call := hP, ansA := fun a _ => ⟨_, rfl⟩, ansB := fun a _ => ⟨_, rfl⟩, glob := hg, n16 := n16 }
  have K : Known (crewCfg N n h ts tx er w) ts tx er a0 N c0 h TO TL :=
    { ansA := fun a _ => rfl, ansB := fun a _ => rfl, row := fun i hi => by
        obtain ⟨b, o, q1, q2, q3⟩ := hrow i hi
        refine ⟨b, o, q1, rd b (by omega) (by omega) (by omega) (by omega), ?_⟩
        rw [← q3]
        show w.cell? _ = _
        unfold World.cell?
        rw [pf.low b (by omega)]
      call := hR, low := ⟨by show N ≤ N + 6; omega, by show N ≤ N + 5; omega, by show N ≤ N + 1; omega, by show N ≤ N + 3; omega⟩, h1 := h1, h8 := h8, so := so, o7 := o7, sl := sl, l0 := l0, l1 := l1 }
  have hSl : Slots (crewCfg N n h ts tx er w) (N + 4) N (N + 2) h (h - h) T := ⟨S.size, S.bd, S.bo, S.bj, S.wg, S.top, by rw [Nat.sub_self]; exact S.at_⟩
  have hF : Fct (crewCfg N n h ts tx er w).ty (crewCfg N n h ts tx er w).Wg (crewCfg N n h ts tx er w).B w := ⟨⟨0, 0, hwg⟩, by show N + 6 ≤ w.heap.size; omega⟩
  have hst := spawn_loop (cs := waiting TO TL) H0 h8 h (Nat.le_refl h) T hSl w hF
  have hI : ∃ μ, Inv Try.prog (crewCfg N n h ts tx er w) (AnchH (crewCfg N n h ts tx er w) (N + 4) N (N + 2)) (AnchS (crewCfg N n h ts tx er w) (N + 4) N (N + 2) h (waiting TO TL)) (LPost (crewCfg N n h ts tx er w) N) μ (solo (G ((base 8).at ⟨T, []⟩ [.code sloop, .inLoop sloop, .inBlock 2, .code sfin]) (waiting TO TL)) w) t := by
    obtain ⟨r, hr⟩ : ∃ r, h = r + 1 := ⟨h - 1, by omega⟩
    have hst' := hst
    rw [hr] at hst'
    obtain ⟨m, hk⟩ := hst'
    rw [← hr] at hk
    have hc := CS.skd (P := Try.prog) (c := crewCfg N n h ts tx er w) (Anch := AnchH (crewCfg N n h ts tx er w) (N + 4) N (N + 2)) (AnchW := AnchS (crewCfg N n h ts tx er w) (N + 4) N (N + 2) h (waiting TO TL)) (Post := LPost (crewCfg N n h ts tx er w) N) (r := r) (show r < h by omega) hk
    rw [show (crewCfg N n h ts tx er w).h - (r + 1) = 0 by show h - (r + 1) = 0; omega] at hc
    have hmode : Go.ConcN.Mode 0 (ds fun _ => noHand) (.sp r 5) 0 0 := by
      have := Go.ConcN.Mode.opn (j := 0) (D := ds fun _ => noHand) (tag := .sp r 5) trivial (fun i hi => absurd hi (Nat.not_lt_zero i)) (fun vs e => by cases e)
      simpa [Vc, sumTo, pend] using this
    refine ⟨_, .inl ⟨#[_], w, none, 0, fun _ => noHand, 0, .sp r 5, m, 0, _, 0, 0, rfl, rfl, hc, ?_, rfl⟩⟩
    refine ⟨Nat.zero_le _, rfl, fun i hi => absurd hi (Nat.not_lt_zero i), ?_, tc_start hpre, hwg, hmode, fun e => (by cases e), fun i _ l hl => ?_, fun i hi => absurd hi (Nat.not_lt_zero i)⟩
    · refine ⟨⟨fun b _ => rfl, rfl, rfl⟩, by show N + 6 ≤ w.heap.size; omega, Nat.zero_le _, ⟨cs', cr, false, ?_⟩, ⟨co, hob, hos, fun a ha => absurd ha (Nat.not_lt_zero a)⟩, fun _ _ h => h.elim, fun _ _ _ h => h.elim, fun _ _ h => h.elim, fun _ _ _ h => h.elim⟩
      have e : (crewCfg N n h ts tx er w).buf 0 = ((List.range n).map (jobOf ts)).toArray := by simp [Cfg.buf, crewCfg]
      rw [e]
      exact hch
    · rcases hl with ⟨a, _, h | ⟨_, _, h, _⟩⟩ | ⟨_, _, h⟩ <;> exact h.elim
  obtain ⟨μ, hI⟩ := hI
  obtain ⟨M, last, o, w', t', e1, e2, e3, e4⟩ := crew_runs O h1 (fun own g w q => hand_anch H0 q) (fun g w q => by
      obtain ⟨T', _, T2, rfl, _⟩ := q
      rfl) (fun g w q => by
      obtain ⟨T', hs, q⟩ := q
      exact Go1.mono (fun g w y => MW1.mono (fun g w z => ⟨T', hs, z⟩) y) (wait_round (L := link) wgLib (fun w hw => ⟨0, fun w₁ h₁ => all_tail H0 K hs (fct_rely hw h₁).2⟩) g w q)) hI
  refine ⟨k0 + M, last, o, w', t', ?_, ?_, e3, e4.elim fun v x => ⟨v, x.1, ⟨x.2.1.1, ?_, ?_, fun b hb => ?_⟩, x.2.2⟩⟩
  · rw [Nat.add_assoc, runNT_add, hrun]; exact e1
  · rw [runN_add, ← runNT_fst _ _ _ #[], hrun]; exact e2
  · exact x.2.1.2.1.1.trans pf.os
  · exact x.2.1.2.1.2.trans pf.output
  · exact (x.2.1.2.2 b (by omega)).trans (pf.low b (by omega))
end
end Go.Proofs.Ytebgcemglicjiaa

namespace Go.Proofs.Ytebgcemglicjiaa
open Go.RowKit
/-- What the arguments are refused for. -/
def Refused (a : Int) (n : Nat) (E : Int) : Prop := (a < 1 ∧ E = 1) ∨ (1 ≤ a ∧ 8 < a ∧ E = 1) ∨ (1 ≤ a ∧ a ≤ 8 ∧ 16 < n ∧ E = 2)
theorem Refused.ne {a : Int} {n : Nat} {E : Int} (h : Refused a n E) : E ≠ 0 := by
  rcases h with ⟨_, rfl⟩ | ⟨_, _, rfl⟩ | ⟨_, _, _, rfl⟩ <;> decide
set_option maxRecDepth 20000 in
theorem check_bad {A : Option Addr} {n c : Nat} {a E : Int} (w : World) (h : Refused a n E) :
    Calls Try.prog 7 #[.slice A n c, .int .i64 a] w fun e w' => e = .returned (.int .i64 E) ∧ w' = w := by
  rcases h with ⟨h1, rfl⟩ | ⟨h1, h2, rfl⟩ | ⟨h1, h2, h3, rfl⟩
  · have d1 : decide (a < 1) = true := decide_eq_true h1
    go_enter Try.func7, Try.ntmps7
    go_wp2
    go_ret
    exact ⟨rfl, rfl⟩
  · have d1 : decide (a < 1) = false := decide_eq_false (by omega)
    have d2 : decide (8 < a) = true := decide_eq_true h2
    go_enter Try.func7, Try.ntmps7
    go_wp2
    go_ret
    exact ⟨rfl, rfl⟩
  · have d1 : decide (a < 1) = false := decide_eq_false (by omega)
    have d2 : decide (8 < a) = false := decide_eq_false (by omega)
    have d3 : (16 : Int) < (n : Int) := by omega
    go_enter Try.func7, Try.ntmps7
    go_wp2
    go_ret
    exact ⟨rfl, rfl⟩
set_option maxRecDepth 20000 in
theorem open_bad {A : Option Addr} {n c : Nat} {a E : Int} (w : World) (h : Refused a n E) :
    Calls Try.prog 4 #[.slice A n c, .int .i64 a] w fun e w' => e = .returned (.tuple #[.slice none 0 0, .int .i64 E]) ∧ w' = w := by
  have H1 := Lib.hid (check_bad (A := A) (c := c) w h)
  have d0 : (E != 0) = true := by simpa using h.ne
  clear h
  go_enter Try.func4, Try.ntmps4
  go_wp2_with (go_at_call 7; refine H1.out.mono ?_; rintro e w1 ⟨rfl, rfl⟩)
  go_ret2
  exact ⟨rfl, rfl⟩
set_option maxRecDepth 20000 in
theorem law_bad {A : Option Addr} {n c : Nat} {a E : Int} (w : World) (h : Refused a n E) :
    Calls Try.prog 3 #[.slice A n c, .int .i64 a] w fun e w' => e = .returned (.bool true) ∧ Below w.heap.size w w' := by
  have H1 := Lib.hid (open_bad (A := A) (c := c) w h)
  have H2 : Hid (∀ W, Calls Try.prog 6 #[.slice none 0 0, .slice none 0 0] W fun e w' => e = .returned (.bool true) ∧ w' = W) := fun W => (Try.slices_Equal_string_empty none none 0 0 0 W (by omega)).mono fun e w' q => ⟨q.1.trans rfl, q.2⟩
  have d0 : (E == 0) = false := by simpa using h.ne
  have d9 : (E != 0) = true := by simpa using h.ne
  rcases h with ⟨h1, rfl⟩ | ⟨h1, h2, rfl⟩ | ⟨h1, h2, h3, rfl⟩
  · have d1 : decide (a < 1) = true := decide_eq_true h1
    by_cases hn : 0 < n
    · have d4 : decide ((0 : Int) < (n : Int)) = true := decide_eq_true (by omega)
      go_enter Try.func3, Try.ntmps3
      go_wp2_with (first
        | (go_at_call 4; refine H1.out.mono ?_; rintro e w1 ⟨rfl, rfl⟩)
        | (go_at_call 6; refine (H2.out _).mono ?_; rintro e w2 ⟨rfl, rfl⟩))
      refine wp_loop_once ?_
      go_wp2_with (first
        | (go_at_call 4; refine H1.out.mono ?_; rintro e w1 ⟨rfl, rfl⟩)
        | (go_at_call 6; refine (H2.out _).mono ?_; rintro e w2 ⟨rfl, rfl⟩))
      go_ret
      exact ⟨rfl, Below.refl _ _⟩
    · obtain rfl : n = 0 := by omega
      go_enter Try.func3, Try.ntmps3
      go_wp2_with (first
        | (go_at_call 4; refine H1.out.mono ?_; rintro e w1 ⟨rfl, rfl⟩)
        | (go_at_call 6; refine (H2.out _).mono ?_; rintro e w2 ⟨rfl, rfl⟩))
      refine wp_loop_once ?_
      go_wp2_with (first
        | (go_at_call 4; refine H1.out.mono ?_; rintro e w1 ⟨rfl, rfl⟩)
        | (go_at_call 6; refine (H2.out _).mono ?_; rintro e w2 ⟨rfl, rfl⟩))
      go_ret
      exact ⟨rfl, Below.refl _ _⟩
  · have d1 : decide (a < 1) = false := decide_eq_false (by omega)
    have d2 : decide (8 < a) = true := decide_eq_true h2
    by_cases hn : 0 < n
    · have d4 : decide ((0 : Int) < (n : Int)) = true := decide_eq_true (by omega)
      go_enter Try.func3, Try.ntmps3
      go_wp2_with (first
        | (go_at_call 4; refine H1.out.mono ?_; rintro e w1 ⟨rfl, rfl⟩)
        | (go_at_call 6; refine (H2.out _).mono ?_; rintro e w2 ⟨rfl, rfl⟩))
      refine wp_loop_once ?_
      go_wp2_with (first
        | (go_at_call 4; refine H1.out.mono ?_; rintro e w1 ⟨rfl, rfl⟩)
        | (go_at_call 6; refine (H2.out _).mono ?_; rintro e w2 ⟨rfl, rfl⟩))
      go_ret
      exact ⟨rfl, Below.refl _ _⟩
    · obtain rfl : n = 0 := by omega
      go_enter Try.func3, Try.ntmps3
      go_wp2_with (first
        | (go_at_call 4; refine H1.out.mono ?_; rintro e w1 ⟨rfl, rfl⟩)
        | (go_at_call 6; refine (H2.out _).mono ?_; rintro e w2 ⟨rfl, rfl⟩))
      refine wp_loop_once ?_
      go_wp2_with (first
        | (go_at_call 4; refine H1.out.mono ?_; rintro e w1 ⟨rfl, rfl⟩)
        | (go_at_call 6; refine (H2.out _).mono ?_; rintro e w2 ⟨rfl, rfl⟩))
      go_ret
      exact ⟨rfl, Below.refl _ _⟩
  · have d1 : decide (a < 1) = false := decide_eq_false (by omega)
    have d2 : decide (8 < a) = false := decide_eq_false (by omega)
    have d3 : (16 : Int) < (n : Int) := by omega
    by_cases hn : 0 < n
    · have d4 : decide ((0 : Int) < (n : Int)) = true := decide_eq_true (by omega)
      go_enter Try.func3, Try.ntmps3
      go_wp2_with (first
        | (go_at_call 4; refine H1.out.mono ?_; rintro e w1 ⟨rfl, rfl⟩)
        | (go_at_call 6; refine (H2.out _).mono ?_; rintro e w2 ⟨rfl, rfl⟩))
      refine wp_loop_once ?_
      go_wp2_with (first
        | (go_at_call 4; refine H1.out.mono ?_; rintro e w1 ⟨rfl, rfl⟩)
        | (go_at_call 6; refine (H2.out _).mono ?_; rintro e w2 ⟨rfl, rfl⟩))
      go_ret
      exact ⟨rfl, Below.refl _ _⟩
    · obtain rfl : n = 0 := by omega
      exact absurd h3 (by omega)
end Go.Proofs.Ytebgcemglicjiaa
