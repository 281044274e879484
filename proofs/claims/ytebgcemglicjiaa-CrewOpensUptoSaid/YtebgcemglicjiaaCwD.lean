/- (*sync.WaitGroup).Add(1), beside others that make memory. Printed by gen_cwc.py. No condition of ours. -/
import Derived.Test.YtebgcemglicjiaaCwS
import Derived.Conc.CompanyWords
namespace Go.Proofs.Ytebgcemglicjiaa
open Go.Conc Go.RowKit Go.Conc.Lib Go.ConcR.Gen Go.ConcN.Gen
open Go.ConcN (ShN WgLive)
open Go.ConcR (KK WgAt stA smA rd wr mk DC0)
variable {L : WgLink}
theorem go1_said {P : Program} {main : Bool} {ty : TypeId} {Wg : Nat} {Stop : Goroutine → World → Prop} {w : World} {g g' : Goroutine} {e : Event} (hs : g.status = .running) (h : ∀ w₁, stepG P main g w₁ = .go g' w₁ #[e]) (he : EvM Wg e)
    (k : Go1 P main (RM ty Wg) (DM Wg) Stop w g') : Go1 P main (RM ty Wg) (DM Wg) Stop w g :=
  let ⟨m, hm⟩ := k
  ⟨m + 1, Goes.step hs fun w₁ r => by rw [h w₁]; exact ⟨⟨rfl, fun x hx => by simp at hx; subst hx; exact he⟩, Goes.rely (fun _ _ _ h g => h.trans g) hm r⟩⟩
set_option maxRecDepth 100000 in
set_option maxHeartbeats 8000000 in
theorem add_pos {P : Program} (H : WgLib P L) {Wg N : Nat} {Child Next : Goroutine → World → Prop} {b₀ : Frame} {a₀ : Act} {ops₀ : Array Oper} {i₀ : Nat} {rest₀ : List Nat} {k₀ : List Item} {cs : List Frame}
    (hT : ∀ w, Fct L.tWg Wg N w → Go1 P true (RM L.tWg Wg) (DM Wg) (MGo P Child Next) w (G (b₀.at (a₀.put ((ops₀[i₀]?).bind (·.dst)) (.tuple #[])) (.inRegion ops₀ rest₀ :: k₀)) cs)) (w : World) (hK : Fct L.tWg Wg N w) :
    Go1 P true (RM L.tWg Wg) (DM Wg) (MKdS P L.tWg Wg Child Next) w (G ((base L.add).at ⟨#[.pointer (some ⟨Wg, 0, none⟩), .int .i64 1, undef, undef, undef, undef, undef, undef, undef, undef, undef, undef, undef, undef, undef, undef, undef, undef, undef, undef, undef, undef, undef, undef, undef, undef, undef, undef, undef, undef, undef, undef, undef, undef, undef, undef, undef, undef, undef, undef, undef, undef, undef, undef, undef, undef, undef, undef, undef, undef, undef, undef, undef, undef, undef, undef, undef, undef, undef, undef, undef, undef, undef, undef, undef, undef, undef, undef, undef, undef, undef, undef, undef, undef, undef, undef, undef, undef, undef, undef, undef, undef, undef, undef, undef, undef, undef, undef, undef, undef, undef, undef, undef, undef, undef, undef, undef, undef, undef, undef, undef, undef, undef, undef, undef, undef, undef, undef, undef, undef, undef, undef, undef, undef, undef, undef, undef], []⟩ [.code (body_add L)]) (b₀.at a₀ (.inRegion ops₀ (i₀ :: rest₀) :: k₀) :: cs)) := by
  lib_facts
  simp only [body_add, addFn, Option.getD_some]
  obtain ⟨Y, hY⟩ : ∃ Y, Y = (fun bq aq kq cq => Go1 P true (RM L.tWg Wg) (DM Wg) (MKdS P L.tWg Wg Child Next) w (G (Frame.at bq aq kq) cq)) := ⟨_, rfl⟩
  obtain ⟨Z, hZ⟩ : ∃ Z, Z = (fun bq aq kq cq => Go1 P true (RM L.tWg Wg) (DM Wg) (MKdS P L.tWg Wg Child Next) w (G { Frame.at bq aq kq with mode := .returning } cq)) := ⟨_, rfl⟩
  have S : Sil P true ((RM L.tWg Wg) w) Y Z := by rw [hY, hZ]; exact sil_goes (P := P) (main := true) (R := (RM L.tWg Wg)) (D := (DM Wg)) (Stop := (MKdS P L.tWg Wg Child Next)) (fun _ _ _ h g => h.trans g) (fun _ => dm_none (fun e he => by simp at he)) w
  suffices h : Y _ _ _ _ by rw [hY] at h; exact h
  repeat (first
    | refine sl_done S ?_
    | refine sl_seq S ?_
    | refine sl_skip S ?_
    | (co_apply sl_region S (by simp only [List.size_toArray, List.length_cons, List.length_nil, Nat.reduceAdd, Nat.zero_add, List.range, List.range.loop]; exact rfl))
    | refine sl_true S rfl ?_
    | refine sl_false S rfl ?_
    | refine sl_ret S ?_
    | refine sl_block S ?_
    | refine sl_loop S ?_
    | refine sl_inBlock S ?_
    | refine sl_inLoop S ?_
    | (refine sl_exit S (k' := _) rfl ?_)
    | refine sl_end S ?_
    | (co_apply sl_off S rfl rfl; (focus (walk_nrm; exact rfl)))
    | (co_apply sl_defer S rfl rfl (by k_ne) rfl; (focus (walk_nrm; exact rfl)))
    | (co_apply sl_call S rfl rfl (by k_ne) rfl H.f_uAdd (nm_uAdd L) rfl; (focus (walk_nrmf uAddFn; exact rfl)))
    | (co_apply sl_call S rfl rfl (by k_ne) rfl H.f_uLoad (nm_uLoad L) rfl; (focus (walk_nrmf uLoadFn; exact rfl)))
    | (co_apply sl_call S rfl rfl (by k_ne) rfl H.f_uStore (nm_uStore L) rfl; (focus (walk_nrmf uStoreFn; exact rfl)))
    | (co_apply sl_call S rfl rfl (by k_ne) rfl H.f_uCas (nm_uCas L) rfl; (focus (walk_nrmf uCasFn; exact rfl)))
    | (co_apply sl_entry S (.bool false) rfl rfl (by k_ne) rfl H.f_inBubble (x_inBubble_n L) (x_inBubble_b L) (x_inBubble_x L) (x_inBubble_f L); (focus (walk_nrm; exact rfl)))
    | (co_apply sl_leave1 S rfl rfl H.f_uAdd rfl; (focus (walk_nrm; exact rfl)))
    | (co_apply sl_leave1 S rfl rfl H.f_uLoad rfl; (focus (walk_nrm; exact rfl)))
    | (co_apply sl_leave1 S rfl rfl H.f_uCas rfl; (focus (walk_nrm; exact rfl)))
    | (co_apply sl_leave0 S rfl rfl H.f_uStore rfl; (focus (walk_nrm; exact rfl)))
    | (co_apply sl_op S rfl rfl (by k_ne); (focus (intro W _ K hK; go_simp; (try w_num); exact hK)); (focus (intro W _; simp [go_sem, *])); (focus (walk_nrm; exact rfl))))
  rw [hY]
  refine ⟨0, fun w₁ h₁ => ?_⟩
  clear hY hZ S Y Z
  replace hK := fct_rely hK h₁
  clear h₁
  refine ⟨rfl, _, stepG_mark0 .disable (by simp) rfl rfl (by k_ne) rfl H.f_disable (x_disable_n L) (x_disable_b L) (x_disable_x L) (x_disable_f L), ?_⟩
  walk_nrm
  obtain ⟨Y, hY⟩ : ∃ Y, Y = (fun bq aq kq cq => Go1 P true (RM L.tWg Wg) (DM Wg) (MA1 P L.tWg Wg Child Next) w₁ (G (Frame.at bq aq kq) cq)) := ⟨_, rfl⟩
  obtain ⟨Z, hZ⟩ : ∃ Z, Z = (fun bq aq kq cq => Go1 P true (RM L.tWg Wg) (DM Wg) (MA1 P L.tWg Wg Child Next) w₁ (G { Frame.at bq aq kq with mode := .returning } cq)) := ⟨_, rfl⟩
  have S : Sil P true ((RM L.tWg Wg) w₁) Y Z := by rw [hY, hZ]; exact sil_goes (P := P) (main := true) (R := (RM L.tWg Wg)) (D := (DM Wg)) (Stop := (MA1 P L.tWg Wg Child Next)) (fun _ _ _ h g => h.trans g) (fun _ => dm_none (fun e he => by simp at he)) w₁
  suffices h : Y _ _ _ _ by rw [hY] at h; exact h
  repeat (first
    | refine sl_done S ?_
    | refine sl_seq S ?_
    | refine sl_skip S ?_
    | (co_apply sl_region S (by simp only [List.size_toArray, List.length_cons, List.length_nil, Nat.reduceAdd, Nat.zero_add, List.range, List.range.loop]; exact rfl))
    | refine sl_true S rfl ?_
    | refine sl_false S rfl ?_
    | refine sl_ret S ?_
    | refine sl_block S ?_
    | refine sl_loop S ?_
    | refine sl_inBlock S ?_
    | refine sl_inLoop S ?_
    | (refine sl_exit S (k' := _) rfl ?_)
    | refine sl_end S ?_
    | (co_apply sl_off S rfl rfl; (focus (walk_nrm; exact rfl)))
    | (co_apply sl_defer S rfl rfl (by k_ne) rfl; (focus (walk_nrm; exact rfl)))
    | (co_apply sl_call S rfl rfl (by k_ne) rfl H.f_uAdd (nm_uAdd L) rfl; (focus (walk_nrmf uAddFn; exact rfl)))
    | (co_apply sl_call S rfl rfl (by k_ne) rfl H.f_uLoad (nm_uLoad L) rfl; (focus (walk_nrmf uLoadFn; exact rfl)))
    | (co_apply sl_call S rfl rfl (by k_ne) rfl H.f_uStore (nm_uStore L) rfl; (focus (walk_nrmf uStoreFn; exact rfl)))
    | (co_apply sl_call S rfl rfl (by k_ne) rfl H.f_uCas (nm_uCas L) rfl; (focus (walk_nrmf uCasFn; exact rfl)))
    | (co_apply sl_entry S (.bool false) rfl rfl (by k_ne) rfl H.f_inBubble (x_inBubble_n L) (x_inBubble_b L) (x_inBubble_x L) (x_inBubble_f L); (focus (walk_nrm; exact rfl)))
    | (co_apply sl_leave1 S rfl rfl H.f_uAdd rfl; (focus (walk_nrm; exact rfl)))
    | (co_apply sl_leave1 S rfl rfl H.f_uLoad rfl; (focus (walk_nrm; exact rfl)))
    | (co_apply sl_leave1 S rfl rfl H.f_uCas rfl; (focus (walk_nrm; exact rfl)))
    | (co_apply sl_leave0 S rfl rfl H.f_uStore rfl; (focus (walk_nrm; exact rfl)))
    | (co_apply sl_op S rfl rfl (by k_ne); (focus (intro W _ K hK; go_simp; (try w_num); exact hK)); (focus (intro W _; simp [go_sem, *])); (focus (walk_nrm; exact rfl))))
  rw [hY]
  refine ⟨0, fun w₂ h₁ => ?_⟩
  clear hY hZ S Y Z
  replace hK := fct_rely hK h₁
  clear h₁
  refine ⟨rfl, fun v hv hw => ?_⟩
  rcases Nat.eq_zero_or_pos v with rfl | hvp
  · -- the count is now 1
    replace hw : WgAt L.tWg Wg w₂ 0 0 := by simpa using hw
    have z : (((0 : Nat) : Int) + 1) * KK = KK := by simp
    rw [z]
    have e0 : IntKind.u64.wrap (0 + 4294967296) = KK := by decide
    refine ⟨_, (stepG_add_atomic rfl rfl (by k_ne) rfl H.f_addU64 (x_addU64_n L) (x_addU64_b L) (x_addU64_x L) .u64 (x_addU64_f L) rfl rfl hw.cellSt (hw.thaw 0)).trans (by rw [e0]; rfl), ?_⟩
    replace hK := hK.set _ _ (hw.setSt KK)
    clear hw
    generalize w₂.setCell (stA Wg) (.int .u64 KK) = w₃ at hK ⊢
    simp only [KK]
    walk_nrm
    obtain ⟨Y, hY⟩ : ∃ Y, Y = (fun bq aq kq cq => Go1 P true (RM L.tWg Wg) (DM Wg) (MKeS P L.tWg Wg Child Next) w₃ (G (Frame.at bq aq kq) cq)) := ⟨_, rfl⟩
    obtain ⟨Z, hZ⟩ : ∃ Z, Z = (fun bq aq kq cq => Go1 P true (RM L.tWg Wg) (DM Wg) (MKeS P L.tWg Wg Child Next) w₃ (G { Frame.at bq aq kq with mode := .returning } cq)) := ⟨_, rfl⟩
    have S : Sil P true ((RM L.tWg Wg) w₃) Y Z := by rw [hY, hZ]; exact sil_goes (P := P) (main := true) (R := (RM L.tWg Wg)) (D := (DM Wg)) (Stop := (MKeS P L.tWg Wg Child Next)) (fun _ _ _ h g => h.trans g) (fun _ => dm_none (fun e he => by simp at he)) w₃
    suffices h : Y _ _ _ _ by rw [hY] at h; exact h
    repeat (first
      | refine sl_done S ?_
      | refine sl_seq S ?_
      | refine sl_skip S ?_
      | (co_apply sl_region S (by simp only [List.size_toArray, List.length_cons, List.length_nil, Nat.reduceAdd, Nat.zero_add, List.range, List.range.loop]; exact rfl))
      | refine sl_true S rfl ?_
      | refine sl_false S rfl ?_
      | refine sl_ret S ?_
      | refine sl_block S ?_
      | refine sl_loop S ?_
      | refine sl_inBlock S ?_
      | refine sl_inLoop S ?_
      | (refine sl_exit S (k' := _) rfl ?_)
      | refine sl_end S ?_
      | (co_apply sl_off S rfl rfl; (focus (walk_nrm; exact rfl)))
      | (co_apply sl_defer S rfl rfl (by k_ne) rfl; (focus (walk_nrm; exact rfl)))
      | (co_apply sl_call S rfl rfl (by k_ne) rfl H.f_uAdd (nm_uAdd L) rfl; (focus (walk_nrmf uAddFn; exact rfl)))
      | (co_apply sl_call S rfl rfl (by k_ne) rfl H.f_uLoad (nm_uLoad L) rfl; (focus (walk_nrmf uLoadFn; exact rfl)))
      | (co_apply sl_call S rfl rfl (by k_ne) rfl H.f_uStore (nm_uStore L) rfl; (focus (walk_nrmf uStoreFn; exact rfl)))
      | (co_apply sl_call S rfl rfl (by k_ne) rfl H.f_uCas (nm_uCas L) rfl; (focus (walk_nrmf uCasFn; exact rfl)))
      | (co_apply sl_entry S (.bool false) rfl rfl (by k_ne) rfl H.f_inBubble (x_inBubble_n L) (x_inBubble_b L) (x_inBubble_x L) (x_inBubble_f L); (focus (walk_nrm; exact rfl)))
      | (co_apply sl_leave1 S rfl rfl H.f_uAdd rfl; (focus (walk_nrm; exact rfl)))
      | (co_apply sl_leave1 S rfl rfl H.f_uLoad rfl; (focus (walk_nrm; exact rfl)))
      | (co_apply sl_leave1 S rfl rfl H.f_uCas rfl; (focus (walk_nrm; exact rfl)))
      | (co_apply sl_leave0 S rfl rfl H.f_uStore rfl; (focus (walk_nrm; exact rfl)))
      | (co_apply sl_op S rfl rfl (by k_ne); (focus (intro W _ K hK; go_simp; (try w_num); exact hK)); (focus (intro W _; simp [go_sem, *])); (focus (walk_nrm; exact rfl))))
    co_apply sl_conv S rfl rfl (by k_ne) rfl rfl H.underlying_tPU32 H.underlying_tUP H.room_tU32 (fun w₁ r => Fct.cell1 (fct_rely hK r))
    · walk_nrm; exact rfl
    rw [hY]
    refine go1_said rfl (fun w₁ => stepG_markAt .read (by simp) rfl rfl (by k_ne) rfl H.f_raceRead (x_raceRead_n L) (x_raceRead_b L) (x_raceRead_x L) (x_raceRead_f L) (ad := ⟨Wg, 1, none⟩) (by simp [Act.eval])) (evM_read _ rfl) ?_
    walk_nrm
    suffices h : Y _ _ _ _ by rw [hY] at h; exact h
    repeat (first
      | refine sl_done S ?_
      | refine sl_seq S ?_
      | refine sl_skip S ?_
      | (co_apply sl_region S (by simp only [List.size_toArray, List.length_cons, List.length_nil, Nat.reduceAdd, Nat.zero_add, List.range, List.range.loop]; exact rfl))
      | refine sl_true S rfl ?_
      | refine sl_false S rfl ?_
      | refine sl_ret S ?_
      | refine sl_block S ?_
      | refine sl_loop S ?_
      | refine sl_inBlock S ?_
      | refine sl_inLoop S ?_
      | (refine sl_exit S (k' := _) rfl ?_)
      | refine sl_end S ?_
      | (co_apply sl_off S rfl rfl; (focus (walk_nrm; exact rfl)))
      | (co_apply sl_defer S rfl rfl (by k_ne) rfl; (focus (walk_nrm; exact rfl)))
      | (co_apply sl_call S rfl rfl (by k_ne) rfl H.f_uAdd (nm_uAdd L) rfl; (focus (walk_nrmf uAddFn; exact rfl)))
      | (co_apply sl_call S rfl rfl (by k_ne) rfl H.f_uLoad (nm_uLoad L) rfl; (focus (walk_nrmf uLoadFn; exact rfl)))
      | (co_apply sl_call S rfl rfl (by k_ne) rfl H.f_uStore (nm_uStore L) rfl; (focus (walk_nrmf uStoreFn; exact rfl)))
      | (co_apply sl_call S rfl rfl (by k_ne) rfl H.f_uCas (nm_uCas L) rfl; (focus (walk_nrmf uCasFn; exact rfl)))
      | (co_apply sl_entry S (.bool false) rfl rfl (by k_ne) rfl H.f_inBubble (x_inBubble_n L) (x_inBubble_b L) (x_inBubble_x L) (x_inBubble_f L); (focus (walk_nrm; exact rfl)))
      | (co_apply sl_leave1 S rfl rfl H.f_uAdd rfl; (focus (walk_nrm; exact rfl)))
      | (co_apply sl_leave1 S rfl rfl H.f_uLoad rfl; (focus (walk_nrm; exact rfl)))
      | (co_apply sl_leave1 S rfl rfl H.f_uCas rfl; (focus (walk_nrm; exact rfl)))
      | (co_apply sl_leave0 S rfl rfl H.f_uStore rfl; (focus (walk_nrm; exact rfl)))
      | (co_apply sl_op S rfl rfl (by k_ne); (focus (intro W _ K hK; go_simp; (try w_num); exact hK)); (focus (intro W _; simp [go_sem, *])); (focus (walk_nrm; exact rfl))))
    rw [hZ]
    refine ⟨0, fun w₅ h₁ => ?_⟩
    clear hY hZ S Y Z
    replace hK := fct_rely hK h₁
    clear h₁
    refine ⟨rfl, _, stepG_unwind_entry (v := .tuple #[]) (evs := #[mk .enable]) rfl H.f_enable (x_enable_n L) (x_enable_b L) (x_enable_x L) (x_enable_f L) (by simp [Extern.Race.none_]) (by simp [mk]) (by simp [mk]), ?_⟩
    obtain ⟨Y, hY⟩ : ∃ Y, Y = (fun bq aq kq cq => Go1 P true (RM L.tWg Wg) (DM Wg) (MGo P Child Next) w₅ (G (Frame.at bq aq kq) cq)) := ⟨_, rfl⟩
    obtain ⟨Z, hZ⟩ : ∃ Z, Z = (fun bq aq kq cq => Go1 P true (RM L.tWg Wg) (DM Wg) (MGo P Child Next) w₅ (G { Frame.at bq aq kq with mode := .returning } cq)) := ⟨_, rfl⟩
    have S : Sil P true ((RM L.tWg Wg) w₅) Y Z := by rw [hY, hZ]; exact sil_goes (P := P) (main := true) (R := (RM L.tWg Wg)) (D := (DM Wg)) (Stop := (MGo P Child Next)) (fun _ _ _ h g => h.trans g) (fun _ => dm_none (fun e he => by simp at he)) w₅
    suffices h : Z _ _ _ _ by rw [hZ] at h; exact h
    refine sl_leave0 S rfl rfl H.f_add rfl rfl ?_
    rw [hY]
    exact hT _ hK
  · -- it is more
    obtain ⟨V, hV⟩ : ∃ V : Int, V = (v : Int) + 1 := ⟨_, rfl⟩
    obtain ⟨X, hS⟩ : ∃ X : Int, X = V * KK := ⟨_, rfl⟩
    have eS : IntKind.u64.wrap ((v : Int) * KK + 4294967296) = X := by rw [IntKind.wrap_u64, hS, hV]; simp only [KK]; omega
    rw [← hV, ← hS]
    have a1 : X / 4294967296 = V := by rw [hS]; simp only [KK]; omega
    have b1 : bits .and .u64 X 2147483648 = 0 := by rw [hS, hV]; have := Go.ConcN.st_flag (v + 1) 0 (by omega) (by omega); simpa [KK] using this
    have b2 : bits .and .u64 X 2147483647 = 0 := by rw [hS, hV]; have := Go.ConcN.st_waiters (v + 1) 0 (by omega) (by omega); simpa [KK] using this
    have c1 : IntKind.i32.wrap V = V := by rw [IntKind.wrap_i32]; omega
    have hV1 : 1 < V := by omega
    have hV2 : V < 2147483648 := by omega
    have q1 : (V == 1) = false := by simp; omega
    have q2 : decide (V = 1) = false := decide_eq_false (by omega)
    have q3 : decide (V < 0) = false := decide_eq_false (by omega)
    have q4 : decide (0 < V) = true := decide_eq_true (by omega)
    have q5 : (V == 0) = false := by simp; omega
    have q6 : decide (V = 0) = false := decide_eq_false (by omega)
    refine ⟨_, (stepG_add_atomic rfl rfl (by k_ne) rfl H.f_addU64 (x_addU64_n L) (x_addU64_b L) (x_addU64_x L) .u64 (x_addU64_f L) rfl rfl hw.cellSt (hw.thaw 0)).trans (by rw [eS]; rfl), ?_⟩
    replace hK := hK.set _ _ (hw.setSt X)
    clear hw hS hV eS
    generalize w₂.setCell (stA Wg) (.int .u64 X) = w₃ at hK ⊢
    walk_nrm
    obtain ⟨Y, hY⟩ : ∃ Y, Y = (fun bq aq kq cq => Go1 P true (RM L.tWg Wg) (DM Wg) (MKeS P L.tWg Wg Child Next) w₃ (G (Frame.at bq aq kq) cq)) := ⟨_, rfl⟩
    obtain ⟨Z, hZ⟩ : ∃ Z, Z = (fun bq aq kq cq => Go1 P true (RM L.tWg Wg) (DM Wg) (MKeS P L.tWg Wg Child Next) w₃ (G { Frame.at bq aq kq with mode := .returning } cq)) := ⟨_, rfl⟩
    have S : Sil P true ((RM L.tWg Wg) w₃) Y Z := by rw [hY, hZ]; exact sil_goes (P := P) (main := true) (R := (RM L.tWg Wg)) (D := (DM Wg)) (Stop := (MKeS P L.tWg Wg Child Next)) (fun _ _ _ h g => h.trans g) (fun _ => dm_none (fun e he => by simp at he)) w₃
    suffices h : Y _ _ _ _ by rw [hY] at h; exact h
    repeat (first
      | refine sl_done S ?_
      | refine sl_seq S ?_
      | refine sl_skip S ?_
      | (co_apply sl_region S (by simp only [List.size_toArray, List.length_cons, List.length_nil, Nat.reduceAdd, Nat.zero_add, List.range, List.range.loop]; exact rfl))
      | refine sl_true S rfl ?_
      | refine sl_false S rfl ?_
      | refine sl_ret S ?_
      | refine sl_block S ?_
      | refine sl_loop S ?_
      | refine sl_inBlock S ?_
      | refine sl_inLoop S ?_
      | (refine sl_exit S (k' := _) rfl ?_)
      | refine sl_end S ?_
      | (co_apply sl_off S rfl rfl; (focus (walk_nrm; exact rfl)))
      | (co_apply sl_defer S rfl rfl (by k_ne) rfl; (focus (walk_nrm; exact rfl)))
      | (co_apply sl_call S rfl rfl (by k_ne) rfl H.f_uAdd (nm_uAdd L) rfl; (focus (walk_nrmf uAddFn; exact rfl)))
      | (co_apply sl_call S rfl rfl (by k_ne) rfl H.f_uLoad (nm_uLoad L) rfl; (focus (walk_nrmf uLoadFn; exact rfl)))
      | (co_apply sl_call S rfl rfl (by k_ne) rfl H.f_uStore (nm_uStore L) rfl; (focus (walk_nrmf uStoreFn; exact rfl)))
      | (co_apply sl_call S rfl rfl (by k_ne) rfl H.f_uCas (nm_uCas L) rfl; (focus (walk_nrmf uCasFn; exact rfl)))
      | (co_apply sl_entry S (.bool false) rfl rfl (by k_ne) rfl H.f_inBubble (x_inBubble_n L) (x_inBubble_b L) (x_inBubble_x L) (x_inBubble_f L); (focus (walk_nrm; exact rfl)))
      | (co_apply sl_leave1 S rfl rfl H.f_uAdd rfl; (focus (walk_nrm; exact rfl)))
      | (co_apply sl_leave1 S rfl rfl H.f_uLoad rfl; (focus (walk_nrm; exact rfl)))
      | (co_apply sl_leave1 S rfl rfl H.f_uCas rfl; (focus (walk_nrm; exact rfl)))
      | (co_apply sl_leave0 S rfl rfl H.f_uStore rfl; (focus (walk_nrm; exact rfl)))
      | (co_apply sl_op S rfl rfl (by k_ne); (focus (intro W _ K hK; go_simp; (try w_num); exact hK)); (focus (intro W _; simp [go_sem, *])); (focus (walk_nrm; exact rfl))))
    rw [hZ]
    refine ⟨0, fun w₅ h₁ => ?_⟩
    clear hY hZ S Y Z
    replace hK := fct_rely hK h₁
    clear h₁
    refine ⟨rfl, _, stepG_unwind_entry (v := .tuple #[]) (evs := #[mk .enable]) rfl H.f_enable (x_enable_n L) (x_enable_b L) (x_enable_x L) (x_enable_f L) (by simp [Extern.Race.none_]) (by simp [mk]) (by simp [mk]), ?_⟩
    obtain ⟨Y, hY⟩ : ∃ Y, Y = (fun bq aq kq cq => Go1 P true (RM L.tWg Wg) (DM Wg) (MGo P Child Next) w₅ (G (Frame.at bq aq kq) cq)) := ⟨_, rfl⟩
    obtain ⟨Z, hZ⟩ : ∃ Z, Z = (fun bq aq kq cq => Go1 P true (RM L.tWg Wg) (DM Wg) (MGo P Child Next) w₅ (G { Frame.at bq aq kq with mode := .returning } cq)) := ⟨_, rfl⟩
    have S : Sil P true ((RM L.tWg Wg) w₅) Y Z := by rw [hY, hZ]; exact sil_goes (P := P) (main := true) (R := (RM L.tWg Wg)) (D := (DM Wg)) (Stop := (MGo P Child Next)) (fun _ _ _ h g => h.trans g) (fun _ => dm_none (fun e he => by simp at he)) w₅
    suffices h : Z _ _ _ _ by rw [hZ] at h; exact h
    refine sl_leave0 S rfl rfl H.f_add rfl rfl ?_
    rw [hY]
    exact hT _ hK
end Go.Proofs.Ytebgcemglicjiaa
