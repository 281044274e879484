/- crew.all's loop that starts the hands, and its Wait. Printed by gen_cvb.py. No condition of ours. -/
import Derived.Test.YtebgcemglicjiaaCwJc
import Derived.Conc.CrowdMono
import Derived.Test.YtebgcemglicjiaaCwX
import Derived.Conc.WgWords
/- The starter's stops in Wait hang on their anchor monotonely. No condition of ours. -/
namespace Go.Proofs.Ytebgcemglicjiaa
open Go.Conc Go.ConcN
open Go.ConcR (KK WgAt stA smA rd wr mk)
section
variable {P : Program} {ty : TypeId} {Wg : Nat} {A A' Tail : Goroutine → World → Prop}
theorem MW2.mono (h : ∀ g w, A g w → A' g w) {vs : Nat} {g : Goroutine} {w : World} (x : MW2 P ty Wg A Tail vs g w) : MW2 P ty Wg A' Tail vs g w :=
  ⟨x.1, fun v hv hw => ⟨(x.2 v hv hw).1, fun e => let ⟨g', h1, m, h2⟩ := (x.2 v hv hw).2 e; ⟨g', h1, m, goes_mono h h2⟩⟩⟩
theorem MW1.mono (h : ∀ g w, A g w → A' g w) {g : Goroutine} {w : World} (x : MW1 P ty Wg A Tail g w) : MW1 P ty Wg A' Tail g w :=
  ⟨x.1, fun v hv hw => let ⟨g', h1, h2, h3⟩ := x.2 v hv hw; ⟨g', h1, h2, fun e => let ⟨m, h4⟩ := h3 e; ⟨m, goes_mono (fun _ _ y => MW2.mono h y) h4⟩⟩⟩
theorem MKd.mono (h : ∀ g w, A g w → A' g w) {g : Goroutine} {w : World} (x : MKd P ty Wg A g w) : MKd P ty Wg A' g w :=
  let ⟨h0, g', h1, m, h2⟩ := x; ⟨h0, g', h1, m, goes_mono h h2⟩
theorem Go1.mono {main : Bool} {R : World → World → Prop} {D : World → World → Array Event → Prop} {S S' : Goroutine → World → Prop} (h : ∀ g w, S g w → S' g w) {w : World} {g : Goroutine} (x : Go1 P main R D S w g) : Go1 P main R D S' w g :=
  let ⟨m, hm⟩ := x; ⟨m, goes_mono h hm⟩
end
end Go.Proofs.Ytebgcemglicjiaa

namespace Go.Proofs.Ytebgcemglicjiaa
open Go.Conc Go.ConcN Go.RowKit Go.Conc.Lib Go.ConcR.Gen Go.ConcN.Gen
open Go.ConcR (KK WgAt stA smA rd wr mk DC0)
noncomputable def body8 : Code := Try.f8.body.getD .skip
noncomputable def sloop : Code := match body8 with | .seq _ (.seq _ (.seq _ (.seq _ (.seq _ (.seq _ (.seq (.seq _ (.block _ (.loop c))) _)))))) => c | _ => .skip
noncomputable def sfin : Code := match body8 with | .seq _ (.seq _ (.seq _ (.seq _ (.seq _ (.seq _ (.seq _ c)))))) => c | _ => .skip
noncomputable def sops : Array Oper := match sfin with | .seq (.region _ ops _) _ => ops | _ => #[]
noncomputable def srest : Code := match sfin with | .seq _ c => c | _ => .skip
theorem array39 (T : Array Value) (h : T.size = 39) : ∃ v0 v1 v2 v3 v4 v5 v6 v7 v8 v9 v10 v11 v12 v13 v14 v15 v16 v17 v18 v19 v20 v21 v22 v23 v24 v25 v26 v27 v28 v29 v30 v31 v32 v33 v34 v35 v36 v37 v38, T = #[v0, v1, v2, v3, v4, v5, v6, v7, v8, v9, v10, v11, v12, v13, v14, v15, v16, v17, v18, v19, v20, v21, v22, v23, v24, v25, v26, v27, v28, v29, v30, v31, v32, v33, v34, v35, v36, v37, v38] := by
  obtain ⟨l⟩ := T
  simp only [List.size_toArray] at h
  rcases l with _ | ⟨v0, l⟩
  · simp at h
  rcases l with _ | ⟨v1, l⟩
  · simp at h
  rcases l with _ | ⟨v2, l⟩
  · simp at h
  rcases l with _ | ⟨v3, l⟩
  · simp at h
  rcases l with _ | ⟨v4, l⟩
  · simp at h
  rcases l with _ | ⟨v5, l⟩
  · simp at h
  rcases l with _ | ⟨v6, l⟩
  · simp at h
  rcases l with _ | ⟨v7, l⟩
  · simp at h
  rcases l with _ | ⟨v8, l⟩
  · simp at h
  rcases l with _ | ⟨v9, l⟩
  · simp at h
  rcases l with _ | ⟨v10, l⟩
  · simp at h
  rcases l with _ | ⟨v11, l⟩
  · simp at h
  rcases l with _ | ⟨v12, l⟩
  · simp at h
  rcases l with _ | ⟨v13, l⟩
  · simp at h
  rcases l with _ | ⟨v14, l⟩
  · simp at h
  rcases l with _ | ⟨v15, l⟩
  · simp at h
  rcases l with _ | ⟨v16, l⟩
  · simp at h
  rcases l with _ | ⟨v17, l⟩
  · simp at h
  rcases l with _ | ⟨v18, l⟩
  · simp at h
  rcases l with _ | ⟨v19, l⟩
  · simp at h
  rcases l with _ | ⟨v20, l⟩
  · simp at h
  rcases l with _ | ⟨v21, l⟩
  · simp at h
  rcases l with _ | ⟨v22, l⟩
  · simp at h
  rcases l with _ | ⟨v23, l⟩
  · simp at h
  rcases l with _ | ⟨v24, l⟩
  · simp at h
  rcases l with _ | ⟨v25, l⟩
  · simp at h
  rcases l with _ | ⟨v26, l⟩
  · simp at h
  rcases l with _ | ⟨v27, l⟩
  · simp at h
  rcases l with _ | ⟨v28, l⟩
  · simp at h
  rcases l with _ | ⟨v29, l⟩
  · simp at h
  rcases l with _ | ⟨v30, l⟩
  · simp at h
  rcases l with _ | ⟨v31, l⟩
  · simp at h
  rcases l with _ | ⟨v32, l⟩
  · simp at h
  rcases l with _ | ⟨v33, l⟩
  · simp at h
  rcases l with _ | ⟨v34, l⟩
  · simp at h
  rcases l with _ | ⟨v35, l⟩
  · simp at h
  rcases l with _ | ⟨v36, l⟩
  · simp at h
  rcases l with _ | ⟨v37, l⟩
  · simp at h
  rcases l with _ | ⟨v38, l⟩
  · simp at h
  rcases l with _ | ⟨x, l⟩
  · exact ⟨v0, v1, v2, v3, v4, v5, v6, v7, v8, v9, v10, v11, v12, v13, v14, v15, v16, v17, v18, v19, v20, v21, v22, v23, v24, v25, v26, v27, v28, v29, v30, v31, v32, v33, v34, v35, v36, v37, v38, rfl⟩
  · simp at h
/-- The starter's slots. -/
structure Slots (c : Cfg) (Bj Bd Bo h k : Nat) (T : Array Value) : Prop where
  size : T.size = 39
  bd : T[5]? = some (.pointer (some ⟨Bd, 0, none⟩))
  bo : T[7]? = some (.pointer (some ⟨Bo, 0, none⟩))
  bj : T[8]? = some (.pointer (some ⟨Bj, 0, none⟩))
  wg : T[11]? = some (.pointer (some ⟨c.Wg, 0, none⟩))
  top : T[31]? = some (.int .i64 h)
  at_ : T[32]? = some (.int .i64 k)
def AnchS (c : Cfg) (Bj Bd Bo h : Nat) (cs : List Frame) (g : Goroutine) (w : World) : Prop :=
  ∃ T, Slots c Bj Bd Bo h h T ∧ AnchM link c.B c.Wg ((base 8).at ⟨T, []⟩ [.inRegion sops [0], .code srest]) cs g w
theorem sil_starts {P : Program} {ty : TypeId} {Wg : Nat} {Ch Fin : Goroutine → World → Prop} {w : World} (r : Nat) (hf : ∀ g g', g.status = .running → (∀ w₁, RM ty Wg w w₁ → stepG P true g w₁ = .go g' w₁ #[]) → Fin g' w → Fin g w) :
    Sil P true (RM ty Wg w) (fun b a k cs => Starts P ty Wg Ch Fin r (G (b.at a k) cs) w) (fun b a k cs => Starts P ty Wg Ch Fin r (G { b.at a k with mode := .returning } cs) w) :=
  sil_of (X := fun g => Starts P ty Wg Ch Fin r g w) fun g g' hs h x => by
    cases r with
    | zero => exact hf g g' hs h x
    | succ r => exact let ⟨m, hm⟩ := x; ⟨m + 1, Goes.step hs fun w₁ q => by rw [h w₁ q]; exact ⟨dm_none (fun e he => by simp at he), Goes.rely (fun _ _ _ h g => h.trans g) hm q⟩⟩
theorem fin_sil {P : Program} {c : Cfg} {A : Goroutine → World → Prop} {w : World} : ∀ g g', g.status = .running → (∀ w₁, RM c.ty c.Wg w w₁ → stepG P true g w₁ = .go g' w₁ #[]) → FinP P c A g' w → FinP P c A g w :=
  fun g g' hs h ⟨m, hm⟩ => ⟨m + 1, Goes.step hs fun w₁ q => by rw [h w₁ q]; exact ⟨dm_none (fun e he => by simp at he), Goes.rely (fun _ _ _ h g => h.trans g) hm q⟩⟩
theorem add_here {c : Cfg} (ht : c.ty = 54) {N : Nat} {Ch Next : Goroutine → World → Prop} {b₀ : Frame} {a₀ : Act} {ops₀ : Array Oper} {i₀ : Nat} {rest₀ : List Nat} {k₀ : List Item} {cs : List Frame}
    (hT : ∀ w, Fct c.ty c.Wg N w → Go1 Try.prog true (RM c.ty c.Wg) (DM c.Wg) (MGo Try.prog Ch Next) w (G (b₀.at (a₀.put ((ops₀[i₀]?).bind (·.dst)) (.tuple #[])) (.inRegion ops₀ rest₀ :: k₀)) cs)) (w : World) (hK : Fct c.ty c.Wg N w) :
    Go1 Try.prog true (RM c.ty c.Wg) (DM c.Wg) (MKdS Try.prog c.ty c.Wg Ch Next) w (G ((base 13).at ⟨#[.pointer (some ⟨c.Wg, 0, none⟩), .int .i64 1, undef, undef, undef, undef, undef, undef, undef, undef, undef, undef, undef, undef, undef, undef, undef, undef, undef, undef, undef, undef, undef, undef, undef, undef, undef, undef, undef, undef, undef, undef, undef, undef, undef, undef, undef, undef, undef, undef, undef, undef, undef, undef, undef, undef, undef, undef, undef, undef, undef, undef, undef, undef, undef, undef, undef, undef, undef, undef, undef, undef, undef, undef, undef, undef, undef, undef, undef, undef, undef, undef, undef, undef, undef, undef, undef, undef, undef, undef, undef, undef, undef, undef, undef, undef, undef, undef, undef, undef, undef, undef, undef, undef, undef, undef, undef, undef, undef, undef, undef, undef, undef, undef, undef, undef, undef, undef, undef, undef, undef, undef, undef, undef, undef, undef, undef], []⟩ [.code (Try.f13.body.getD .skip)]) (b₀.at a₀ (.inRegion ops₀ (i₀ :: rest₀) :: k₀) :: cs)) := by
  rw [ht] at *
  exact @add_pos link Try.prog wgLib c.Wg N Ch Next b₀ a₀ ops₀ i₀ rest₀ k₀ cs hT w hK
theorem wait_here {c : Cfg} (ht : c.ty = 54) {N : Nat} {b₀ : Frame} {a₀ : Act} {ops₀ : Array Oper} {i₀ : Nat} {rest₀ : List Nat} {k₀ : List Item} {cs : List Frame} (w : World) (hK : Fct c.ty c.Wg N w) :
    Go1 Try.prog true (RM c.ty c.Wg) (DM c.Wg) (MKd Try.prog c.ty c.Wg (AnchM link N c.Wg (b₀.at a₀ (.inRegion ops₀ (i₀ :: rest₀) :: k₀)) cs)) w (G ((base 16).at ⟨#[.pointer (some ⟨c.Wg, 0, none⟩), undef, undef, undef, undef, undef, undef, undef, undef, undef, undef, undef, undef, undef, undef, undef, undef, undef, undef, undef, undef, undef, undef, undef, undef, undef, undef, undef, undef, undef, undef, undef, undef, undef, undef, undef, undef, undef, undef, undef, undef, undef, undef, undef, undef, undef, undef, undef, undef, undef, undef, undef, undef, undef, undef, undef, undef, undef, undef, undef, undef, undef, undef, undef, undef, undef, undef, undef, undef, undef, undef, undef, undef, undef, undef, undef, undef, undef, undef, undef, undef, undef, undef, undef], []⟩ [.code (Try.f16.body.getD .skip)]) (b₀.at a₀ (.inRegion ops₀ (i₀ :: rest₀) :: k₀) :: cs)) := by
  rw [ht] at *
  exact @wait_start link c.Wg N b₀ a₀ ops₀ i₀ rest₀ k₀ cs Try.prog wgLib w hK
set_option maxRecDepth 100000 in
set_option maxHeartbeats 8000000 in
theorem spawn_loop {c : Cfg} {Bj Bd Bo h : Nat} {ts : Nat → ByteArray} {cs : List Frame} (H0 : Laid c Bj Bd Bo ts) (h8 : h ≤ 8) : ∀ r, r ≤ h → ∀ T, Slots c Bj Bd Bo h (h - r) T → ∀ w, Fct c.ty c.Wg c.B w →
    Starts Try.prog c.ty c.Wg (Child Try.prog c (AnchH c Bj Bd Bo)) (FinP Try.prog c (AnchS c Bj Bd Bo h cs)) r (G ((base 8).at ⟨T, []⟩ [.code sloop, .inLoop sloop, .inBlock 2, .code sfin]) cs) w := by
  have H := wgLib
  let L := link
  intro r
  induction r with
  | zero =>
    intro hr T hT w hw
    have hT0 := hT
    obtain ⟨hs, t5, t7, t8, t11, t31, t32⟩ := hT
    obtain ⟨v0, v1, v2, v3, v4, v5, v6, v7, v8, v9, v10, v11, v12, v13, v14, v15, v16, v17, v18, v19, v20, v21, v22, v23, v24, v25, v26, v27, v28, v29, v30, v31, v32, v33, v34, v35, v36, v37, v38, rfl⟩ := array39 T hs
    simp only [List.getElem?_toArray, List.getElem?_cons_zero, List.getElem?_cons_succ, Option.some.injEq, Nat.sub_zero] at t5 t7 t8 t11 t31 t32
    subst t5 t7 t8 t11 t31 t32
    simp only [sloop, sfin, body8, Try.f8, Option.getD_some]
    obtain ⟨Y, hY⟩ : ∃ Y, Y = (fun bq aq kq cq => Starts Try.prog c.ty c.Wg (Child Try.prog c (AnchH c Bj Bd Bo)) (FinP Try.prog c (AnchS c Bj Bd Bo h cs)) 0 (G (Frame.at bq aq kq) cq) w) := ⟨_, rfl⟩
    obtain ⟨Z, hZ⟩ : ∃ Z, Z = (fun bq aq kq cq => Starts Try.prog c.ty c.Wg (Child Try.prog c (AnchH c Bj Bd Bo)) (FinP Try.prog c (AnchS c Bj Bd Bo h cs)) 0 (G { Frame.at bq aq kq with mode := .returning } cq) w) := ⟨_, rfl⟩
    have S : Sil Try.prog true (RM c.ty c.Wg w) Y Z := by rw [hY, hZ]; exact sil_starts 0 fin_sil
    suffices q : Y _ _ _ _ by rw [hY] at q; exact q
    repeat (first
      | refine sl_done S ?_
      | refine sl_seq S ?_
      | refine sl_skip S ?_
      | (co_apply sl_region S (by simp only [List.size_toArray, List.length_cons, List.length_nil, Nat.zero_add, List.range, List.range.loop]; exact rfl))
      | refine sl_true S rfl ?_
      | refine sl_false S rfl ?_
      | refine sl_ret S ?_
      | refine sl_block S ?_
      | refine sl_loop S ?_
      | refine sl_inBlock S ?_
      | refine sl_inLoop S ?_
      | (refine sl_exit S (k' := _) rfl ?_)
      | refine sl_end S ?_
      | (co_apply sl_off S rfl rfl; (focus (walk_nrm; exact rfl)))
      | (co_apply sl_defer S rfl rfl (by k_ne) rfl; (focus (walk_nrm; exact rfl)))
      | (co_apply sl_call S rfl rfl (by k_ne) rfl H.f_uAdd (nm_uAdd L) rfl; (focus (walk_nrmf uAddFn; exact rfl)))
      | (co_apply sl_call S rfl rfl (by k_ne) rfl H.f_uLoad (nm_uLoad L) rfl; (focus (walk_nrmf uLoadFn; exact rfl)))
      | (co_apply sl_call S rfl rfl (by k_ne) rfl H.f_uStore (nm_uStore L) rfl; (focus (walk_nrmf uStoreFn; exact rfl)))
      | (co_apply sl_call S rfl rfl (by k_ne) rfl H.f_uCas (nm_uCas L) rfl; (focus (walk_nrmf uCasFn; exact rfl)))
      | (co_apply sl_entry S (.bool false) rfl rfl (by k_ne) rfl H.f_inBubble (x_inBubble_n L) (x_inBubble_b L) (x_inBubble_x L) (x_inBubble_f L); (focus (walk_nrm; exact rfl)))
      | (co_apply sl_leave1 S rfl rfl H.f_uAdd rfl; (focus (walk_nrm; exact rfl)))
      | (co_apply sl_leave1 S rfl rfl H.f_uLoad rfl; (focus (walk_nrm; exact rfl)))
      | (co_apply sl_leave1 S rfl rfl H.f_uCas rfl; (focus (walk_nrm; exact rfl)))
      | (co_apply sl_leave0 S rfl rfl H.f_uStore rfl; (focus (walk_nrm; exact rfl)))
      | (co_apply sl_op S rfl rfl (by k_ne); (focus (intro W _ K hK; go_simp; (try w_num); exact hK)); (focus (intro W _; simp [go_sem, *])); (focus (walk_nrm; exact rfl))))
    have hA := @wait_here c H0.ty c.B
    simp only [Try.f16, Option.getD_some] at hA
    co_apply sl_call S rfl rfl (by k_ne) rfl Try.func16 (by kernel_rfl) rfl
    · walk_nrmf Try.f16
      exact rfl
    rw [hY]
    clear hY hZ S Y Z
    refine (fun x => x : Go1 Try.prog true (RM c.ty c.Wg) (DM c.Wg) (MKd Try.prog c.ty c.Wg (AnchS c Bj Bd Bo h cs)) w _ → _) ?_
    refine Go1.mono (fun g w q => MKd.mono (fun g w q => ?_) q) (hA w hw)
    exact ⟨_, ⟨rfl, rfl, rfl, rfl, rfl, rfl, rfl⟩, q⟩
  | succ r ih =>
    intro hr T hT w hw
    obtain ⟨hs, t5, t7, t8, t11, t31, t32⟩ := hT
    obtain ⟨v0, v1, v2, v3, v4, v5, v6, v7, v8, v9, v10, v11, v12, v13, v14, v15, v16, v17, v18, v19, v20, v21, v22, v23, v24, v25, v26, v27, v28, v29, v30, v31, v32, v33, v34, v35, v36, v37, v38, rfl⟩ := array39 T hs
    simp only [List.getElem?_toArray, List.getElem?_cons_zero, List.getElem?_cons_succ, Option.some.injEq] at t5 t7 t8 t11 t31 t32
    subst t5 t7 t8 t11 t31 t32
    have hlt : ((h - (r + 1) : Nat) : Int) < (h : Int) := by omega
    generalize hk : h - (r + 1) = k at hlt ⊢
    simp only [sloop, sfin, body8, Try.f8, Option.getD_some]
    obtain ⟨Y, hY⟩ : ∃ Y, Y = (fun bq aq kq cq => Starts Try.prog c.ty c.Wg (Child Try.prog c (AnchH c Bj Bd Bo)) (FinP Try.prog c (AnchS c Bj Bd Bo h cs)) (r + 1) (G (Frame.at bq aq kq) cq) w) := ⟨_, rfl⟩
    obtain ⟨Z, hZ⟩ : ∃ Z, Z = (fun bq aq kq cq => Starts Try.prog c.ty c.Wg (Child Try.prog c (AnchH c Bj Bd Bo)) (FinP Try.prog c (AnchS c Bj Bd Bo h cs)) (r + 1) (G { Frame.at bq aq kq with mode := .returning } cq) w) := ⟨_, rfl⟩
    have S : Sil Try.prog true (RM c.ty c.Wg w) Y Z := by rw [hY, hZ]; exact sil_starts (r + 1) fin_sil
    suffices q : Y _ _ _ _ by rw [hY] at q; exact q
    repeat (first
      | refine sl_done S ?_
      | refine sl_seq S ?_
      | refine sl_skip S ?_
      | (co_apply sl_region S (by simp only [List.size_toArray, List.length_cons, List.length_nil, Nat.zero_add, List.range, List.range.loop]; exact rfl))
      | refine sl_true S rfl ?_
      | refine sl_false S rfl ?_
      | refine sl_ret S ?_
      | refine sl_block S ?_
      | refine sl_loop S ?_
      | refine sl_inBlock S ?_
      | refine sl_inLoop S ?_
      | (refine sl_exit S (k' := _) rfl ?_)
      | refine sl_end S ?_
      | (co_apply sl_off S rfl rfl; (focus (walk_nrm; exact rfl)))
      | (co_apply sl_defer S rfl rfl (by k_ne) rfl; (focus (walk_nrm; exact rfl)))
      | (co_apply sl_call S rfl rfl (by k_ne) rfl H.f_uAdd (nm_uAdd L) rfl; (focus (walk_nrmf uAddFn; exact rfl)))
      | (co_apply sl_call S rfl rfl (by k_ne) rfl H.f_uLoad (nm_uLoad L) rfl; (focus (walk_nrmf uLoadFn; exact rfl)))
      | (co_apply sl_call S rfl rfl (by k_ne) rfl H.f_uStore (nm_uStore L) rfl; (focus (walk_nrmf uStoreFn; exact rfl)))
      | (co_apply sl_call S rfl rfl (by k_ne) rfl H.f_uCas (nm_uCas L) rfl; (focus (walk_nrmf uCasFn; exact rfl)))
      | (co_apply sl_entry S (.bool false) rfl rfl (by k_ne) rfl H.f_inBubble (x_inBubble_n L) (x_inBubble_b L) (x_inBubble_x L) (x_inBubble_f L); (focus (walk_nrm; exact rfl)))
      | (co_apply sl_leave1 S rfl rfl H.f_uAdd rfl; (focus (walk_nrm; exact rfl)))
      | (co_apply sl_leave1 S rfl rfl H.f_uLoad rfl; (focus (walk_nrm; exact rfl)))
      | (co_apply sl_leave1 S rfl rfl H.f_uCas rfl; (focus (walk_nrm; exact rfl)))
      | (co_apply sl_leave0 S rfl rfl H.f_uStore rfl; (focus (walk_nrm; exact rfl)))
      | (co_apply sl_op S rfl rfl (by k_ne); (focus (intro W _ K hK; go_simp; (try w_num); exact hK)); (focus (intro W _; simp [go_sem, *])); (focus (walk_nrm; exact rfl))))
    have hA := @add_here c H0.ty c.B (Child Try.prog c (AnchH c Bj Bd Bo)) (Starts Try.prog c.ty c.Wg (Child Try.prog c (AnchH c Bj Bd Bo)) (FinP Try.prog c (AnchS c Bj Bd Bo h cs)) r)
    simp only [Try.f13, Option.getD_some] at hA
    co_apply sl_call S rfl rfl (by k_ne) rfl Try.func13 (by kernel_rfl) rfl
    · walk_nrmf Try.f13
      exact rfl
    rw [hY]
    clear hY hZ S Y Z
    refine (fun x => x : Go1 Try.prog true (RM c.ty c.Wg) (DM c.Wg) (MKdS Try.prog c.ty c.Wg (Child Try.prog c (AnchH c Bj Bd Bo)) (Starts Try.prog c.ty c.Wg (Child Try.prog c (AnchH c Bj Bd Bo)) (FinP Try.prog c (AnchS c Bj Bd Bo h cs)) r)) w _ → _) ?_
    refine hA (fun w₂ hw₂ => ?_) w hw
    walk_nrm
    obtain ⟨Y, hY⟩ : ∃ Y, Y = (fun bq aq kq cq => Go1 Try.prog true (RM c.ty c.Wg) (DM c.Wg) (MGo Try.prog (Child Try.prog c (AnchH c Bj Bd Bo)) (Starts Try.prog c.ty c.Wg (Child Try.prog c (AnchH c Bj Bd Bo)) (FinP Try.prog c (AnchS c Bj Bd Bo h cs)) r)) w₂ (G (Frame.at bq aq kq) cq)) := ⟨_, rfl⟩
    obtain ⟨Z, hZ⟩ : ∃ Z, Z = (fun bq aq kq cq => Go1 Try.prog true (RM c.ty c.Wg) (DM c.Wg) (MGo Try.prog (Child Try.prog c (AnchH c Bj Bd Bo)) (Starts Try.prog c.ty c.Wg (Child Try.prog c (AnchH c Bj Bd Bo)) (FinP Try.prog c (AnchS c Bj Bd Bo h cs)) r)) w₂ (G { Frame.at bq aq kq with mode := .returning } cq)) := ⟨_, rfl⟩
    have S : Sil Try.prog true ((RM c.ty c.Wg) w₂) Y Z := by rw [hY, hZ]; exact sil_goes (P := Try.prog) (main := true) (R := (RM c.ty c.Wg)) (D := (DM c.Wg)) (Stop := (MGo Try.prog (Child Try.prog c (AnchH c Bj Bd Bo)) (Starts Try.prog c.ty c.Wg (Child Try.prog c (AnchH c Bj Bd Bo)) (FinP Try.prog c (AnchS c Bj Bd Bo h cs)) r))) (fun _ _ _ h g => h.trans g) (fun _ => dm_none (fun e he => by simp at he)) w₂
    suffices h : Y _ _ _ _ by rw [hY] at h; exact h

    repeat (first
      | refine sl_done S ?_
      | refine sl_seq S ?_
      | refine sl_skip S ?_
      | (co_apply sl_region S (by simp only [List.size_toArray, List.length_cons, List.length_nil, Nat.reduceAdd, Nat.zero_add, List.range, List.range.loop]; exact rfl))
      | refine sl_true S rfl ?_
      | refine sl_false S rfl ?_
      | refine sl_ret S ?_
      | refine sl_block S ?_
      | refine sl_loop S ?_
      | refine sl_inBlock S ?_
      | refine sl_inLoop S ?_
      | (refine sl_exit S (k' := _) rfl ?_)
      | refine sl_end S ?_
      | (co_apply sl_off S rfl rfl; (focus (walk_nrm; exact rfl)))
      | (co_apply sl_defer S rfl rfl (by k_ne) rfl; (focus (walk_nrm; exact rfl)))
      | (co_apply sl_call S rfl rfl (by k_ne) rfl H.f_uAdd (nm_uAdd L) rfl; (focus (walk_nrmf uAddFn; exact rfl)))
      | (co_apply sl_call S rfl rfl (by k_ne) rfl H.f_uLoad (nm_uLoad L) rfl; (focus (walk_nrmf uLoadFn; exact rfl)))
      | (co_apply sl_call S rfl rfl (by k_ne) rfl H.f_uStore (nm_uStore L) rfl; (focus (walk_nrmf uStoreFn; exact rfl)))
      | (co_apply sl_call S rfl rfl (by k_ne) rfl H.f_uCas (nm_uCas L) rfl; (focus (walk_nrmf uCasFn; exact rfl)))
      | (co_apply sl_entry S (.bool false) rfl rfl (by k_ne) rfl H.f_inBubble (x_inBubble_n L) (x_inBubble_b L) (x_inBubble_x L) (x_inBubble_f L); (focus (walk_nrm; exact rfl)))
      | (co_apply sl_leave1 S rfl rfl H.f_uAdd rfl; (focus (walk_nrm; exact rfl)))
      | (co_apply sl_leave1 S rfl rfl H.f_uLoad rfl; (focus (walk_nrm; exact rfl)))
      | (co_apply sl_leave1 S rfl rfl H.f_uCas rfl; (focus (walk_nrm; exact rfl)))
      | (co_apply sl_leave0 S rfl rfl H.f_uStore rfl; (focus (walk_nrm; exact rfl)))
      | (co_apply sl_op S rfl rfl (by k_ne); (focus (intro W _ K hK; go_simp; (try w_num); exact hK)); (focus (intro W _; simp [go_sem, *])); (focus (walk_nrm; exact rfl))))
    rw [hY]
    clear hY hZ S Y Z
    refine ⟨0, fun w₁ h₁ => ?_⟩
    have hw₁ := fct_rely hw₂ h₁
    refine ⟨rfl, _, born Try.prog (hcall c.Wg Bj Bd Bo), (stepG_spawn (w' := w₁) (d := hcall c.Wg Bj Bd Bo) rfl rfl (by k_ne) (by go_simp; try rfl) rfl).trans (by rw [listed_none (by simp [go_sem])]), rfl, hand_child H0 hw₁.2, ?_⟩
    walk_nrm
    simp only [sloop, sfin, body8, Try.f8, Option.getD_some] at ih
    obtain ⟨Y, hY⟩ : ∃ Y, Y = (fun bq aq kq cq => Starts Try.prog c.ty c.Wg (Child Try.prog c (AnchH c Bj Bd Bo)) (FinP Try.prog c (AnchS c Bj Bd Bo h cs)) r (G (Frame.at bq aq kq) cq) w₁) := ⟨_, rfl⟩
    obtain ⟨Z, hZ⟩ : ∃ Z, Z = (fun bq aq kq cq => Starts Try.prog c.ty c.Wg (Child Try.prog c (AnchH c Bj Bd Bo)) (FinP Try.prog c (AnchS c Bj Bd Bo h cs)) r (G { Frame.at bq aq kq with mode := .returning } cq) w₁) := ⟨_, rfl⟩
    have S : Sil Try.prog true (RM c.ty c.Wg w₁) Y Z := by rw [hY, hZ]; exact sil_starts r fin_sil
    suffices q : Y _ _ _ _ by rw [hY] at q; exact q
    repeat (first
      | refine sl_done S ?_
      | refine sl_seq S ?_
      | refine sl_skip S ?_
      | (co_apply sl_region S (by simp only [List.size_toArray, List.length_cons, List.length_nil, Nat.reduceAdd, Nat.zero_add, List.range, List.range.loop]; exact rfl))
      | refine sl_true S rfl ?_
      | refine sl_false S rfl ?_
      | refine sl_ret S ?_
      | refine sl_block S ?_
      | refine sl_loop S ?_
      | refine sl_inBlock S ?_
          | (refine sl_exit S (k' := _) rfl ?_)
      | refine sl_end S ?_
      | (co_apply sl_off S rfl rfl; (focus (walk_nrm; exact rfl)))
      | (co_apply sl_defer S rfl rfl (by k_ne) rfl; (focus (walk_nrm; exact rfl)))
      | (co_apply sl_call S rfl rfl (by k_ne) rfl H.f_uAdd (nm_uAdd L) rfl; (focus (walk_nrmf uAddFn; exact rfl)))
      | (co_apply sl_call S rfl rfl (by k_ne) rfl H.f_uLoad (nm_uLoad L) rfl; (focus (walk_nrmf uLoadFn; exact rfl)))
      | (co_apply sl_call S rfl rfl (by k_ne) rfl H.f_uStore (nm_uStore L) rfl; (focus (walk_nrmf uStoreFn; exact rfl)))
      | (co_apply sl_call S rfl rfl (by k_ne) rfl H.f_uCas (nm_uCas L) rfl; (focus (walk_nrmf uCasFn; exact rfl)))
      | (co_apply sl_entry S (.bool false) rfl rfl (by k_ne) rfl H.f_inBubble (x_inBubble_n L) (x_inBubble_b L) (x_inBubble_x L) (x_inBubble_f L); (focus (walk_nrm; exact rfl)))
      | (co_apply sl_leave1 S rfl rfl H.f_uAdd rfl; (focus (walk_nrm; exact rfl)))
      | (co_apply sl_leave1 S rfl rfl H.f_uLoad rfl; (focus (walk_nrm; exact rfl)))
      | (co_apply sl_leave1 S rfl rfl H.f_uCas rfl; (focus (walk_nrm; exact rfl)))
      | (co_apply sl_leave0 S rfl rfl H.f_uStore rfl; (focus (walk_nrm; exact rfl)))
      | (co_apply sl_op S rfl rfl (by k_ne); (focus (intro W _ K hK; go_simp; (try w_num); exact hK)); (focus (intro W _; simp [go_sem, *])); (focus (walk_nrm; exact rfl))))
    refine sl_inLoop S ?_
    rw [hY]
    refine ih (by omega) _ ⟨rfl, rfl, rfl, rfl, rfl, rfl, ?_⟩ w₁ hw₁
    show some (Value.int .i64 (IntKind.i64.wrap ((k : Int) + 1))) = _
    rw [show IntKind.i64.wrap ((k : Int) + 1) = ((h - r : Nat) : Int) by rw [IntKind.wrap_i64]; omega]
end Go.Proofs.Ytebgcemglicjiaa
