/- The statement of linenlaw.PointWrites, from its walk: for every input the law returns true and its arguments read afterwards as before. No condition of ours. -/
import Derived.Test.YteppengbjpdaiaaLPointWrites
namespace Go.Proofs.Yteppengbjpdaiaa.lPointWrites
open Go.ChangeShapes Go.WideShapes Go.ChangeAt Go.RowKit Go.Deep
open Go.ChangeMaps (open_string shut_string)
set_option linter.unusedVariables false

theorem own : ownKnob Try.prog.godebug = none := by kernel_rfl
theorem laidOut : laidOutB Try.prog = true := by kernel_rfl

theorem exl2 {α : Type} {l : List α} (h : l.length = 2) : ∃ a0 a1, l = [a0, a1] := by
  match l, h with
  | [a0, a1], _ => exact ⟨a0, a1, rfl⟩
theorem exl3 {α : Type} {l : List α} (h : l.length = 3) : ∃ a0 a1 a2, l = [a0, a1, a2] := by
  match l, h with
  | [a0, a1, a2], _ => exact ⟨a0, a1, a2, rfl⟩
theorem el_PlaceD {H : Type} {enc : TypeId × Value → H} {w : World} {base : Nat} {spare : Nat → Bool} {held : Bool} : ∀ (m : Nat) (cs : List Value) (y : DataW H × List MemPlace), DataW.trod enc Try.prog w base spare held m 68 cs = some y → ∃ z : PlaceD, cs = z.cells ∧ z.ok := by
  intro m cs y h
  obtain ⟨hl, ys, _, _, hf⟩ := el_fields Try.underlying68 (by kernel_rfl) (by kernel_rfl) h
  obtain ⟨v0, z0, m0, c0, _, t0⟩ := hf 0 _ rfl
  obtain ⟨a0, e0, _, w0⟩ := DataW.trod_int Try.underlying3 t0
  simp only [List.cons.injEq, and_true] at e0
  subst e0
  obtain ⟨v1, z1, m1, c1, _, t1⟩ := hf 1 _ rfl
  obtain ⟨a1, e1, _, w1⟩ := DataW.trod_int Try.underlying3 t1
  simp only [List.cons.injEq, and_true] at e1
  subst e1
  exact ⟨⟨a0, a1⟩, list2 hl c0 c1, ⟨w0, w1⟩⟩

set_option maxRecDepth 100000 in
theorem lifted (os : Os) (started : os.Started) (H : Type) (enc : TypeId × Value → H) :
    ReturnsInHanded {} Try.checked os 8 .any (Rows.pointWritesSpec.pre6 enc Try.prog Try.f8 Rows.pointWritesRow.domain false) (Rows.pointWritesSpec.post enc Try.prog Try.f8 false true false false) := by
  refine returnsInHanded_of_change_sized (C := Try.checked) own started (by kernel_rfl) Try.func8
    (ChangeSpec.witness6 (enc := enc) (C := Try.checked) false ⟨#[], #[.int .i64 0, .agg #[.int .i64 0, .slice none 0 0, .slice none 0 0]], []⟩ 8 (by kernel_rfl) (by kernel_rfl) (by kernel_rfl) (by kernel_rfl)) ?_
  intro W base args ds gs before hval0 hW hcnd hsz0 _
  have hval : ∀ (j : Nat) t v, Try.f8.params[j]? = some t → args[j]? = some v → Value.okWide Try.prog W .any base t v := hval0
  have hW' := hW
  obtain ⟨p, q, hA0, hV, rfl, hfz, hnd⟩ := hW
  have hA : DataW.TrodAll enc Try.prog W 0 (fun _ => true) true Try.f8.params.toList args.toList ds p := hA0
  rw [Try.params8] at hA hval
  obtain ⟨v0, vs0, d0, ds0, p0, q0, hargs, rfl, rfl, h0, t0⟩ := trodAll_cons hA
  obtain ⟨v1, vs1, d1, ds1, p1, q1, rfl, rfl, rfl, h1, t1⟩ := trodAll_cons t0
  obtain ⟨rfl, rfl, rfl⟩ := trodAll_nil t1
  obtain rfl : args = #[v0, v1] := by cases args; simp_all
  obtain ⟨rfl, rfl⟩ := trodVars_none hV
  have k0 := h0
  have lt0 : ∀ x ∈ p0, x.block < W.heap.size := by obtain ⟨m, hm⟩ := k0; exact DataW.trod_lt m _ _ _ hm
  have k1 := h1
  have lt1 : ∀ x ∈ p1, x.block < W.heap.size := by obtain ⟨m, hm⟩ := k1; exact DataW.trod_lt m _ _ _ hm
  have hsz : (DataW.weightsEach Try.prog [3, 47] [d0, d1]).all (· ≤ reachBytes) = true := by have := hsz0; rw [Try.params8] at this; exact this
  obtain ⟨a0, rfl, rfl, rfl, w0⟩ := open_int Try.underlying3 (hval 0 3 v0 rfl rfl) h0
  obtain ⟨⟨l1⟩, rfl, _⟩ := okWide_struct Try.underlying47 (hval 1 47 v1 rfl rfl)
  obtain ⟨fuel1, hf1⟩ := h1
  obtain ⟨ys1, nn1, _, hy1, hl1, hyl1, hfl1⟩ := DataW.trod_struct Try.underlying47 hf1
  have hd1 : d1 = .agg (ys1.map (·.1)) := congrArg Prod.fst hy1
  have hsf1 := sized_agg hsz (j := 1) (t := 47) rfl (congrArg some hd1) Try.underlying47
  obtain ⟨cc1_0, cc1_1, cc1_2, rfl⟩ : ∃ cc1_0 cc1_1 cc1_2, l1 = [cc1_0, cc1_1, cc1_2] := exl3 (hl1.trans (by kernel_rfl))
  obtain ⟨yy1_0, yy1_1, rfl⟩ : ∃ yy1_0 yy1_1, ys1 = [yy1_0, yy1_1] := exl2 hyl1
  have t1_0 : DataW.trod enc Try.prog W 0 (fun _ => true) true nn1 3 [cc1_0] = some yy1_0 := by
    have := hfl1 0 _ rfl
    rw [show Try.prog.cellsOf _ = 1 from by kernel_rfl] at this
    exact this
  obtain ⟨a1_0, e1_0, _, w1_0⟩ := DataW.trod_int Try.underlying3 t1_0
  simp only [List.cons.injEq, and_true] at e1_0
  subst e1_0
  have t1_1 : DataW.trod enc Try.prog W 0 (fun _ => true) true nn1 45 [cc1_1, cc1_2] = some yy1_1 := by
    have := hfl1 1 _ rfl
    rw [show Try.prog.cellsOf _ = 2 from by kernel_rfl] at this
    exact this
  obtain ⟨hl1_1, ys1_1, hyl1_1, hy1_1, hfl1_1⟩ := el_fields Try.underlying45 (by kernel_rfl) (by kernel_rfl) t1_1
  have hd1_1 : yy1_1.1 = .agg (ys1_1.map (·.1)) := congrArg Prod.fst hy1_1
  have hsf1_1 := sized_agg hsf1 (j := 1) (t := 45) rfl (congrArg some hd1_1) Try.underlying45
  obtain ⟨v1_1_0, z1_1_0, m1_1_0, c_1_1_0, yz1_1_0, t1_1_0⟩ := hfl1_1 0 _ rfl
  obtain ⟨a1_1_0, n1_1_0, c1_1_0, rfl, ⟨x1_1_0, r1_1_0, o1_1_0⟩, g1_1_0⟩ := open_rows_v (cells := PlaceD.cells) (ok := PlaceD.ok) (k := 2) Try.underlying43 (by kernel_rfl) (by decide) (el_PlaceD (enc := enc)) t1_1_0
  have s1_1_0 : c1_1_0 * 16 ≤ 140737488351232 := by
    rcases g1_1_0 with ⟨_, _, hc, _⟩ | ⟨elems, sp, hd, hl, hs⟩
    · subst hc; omega
    · have hb : Try.prog.bytesOf 68 = 16 := by kernel_rfl
      have hle := r1_1_0.le
      have hsp : elems.length + sp.length = c1_1_0 := by rw [hl, hs (fun _ => rfl)]; omega
      have := sized_slice hsf1_1 (j := 0) (t := 43) (e := 68) (elems := elems) (spare := sp) rfl (by rw [List.getElem?_map, yz1_1_0]; exact congrArg some hd) Try.underlying43
      rw [hb, hsp] at this
      simpa [reachBytes] using this
  obtain ⟨v1_1_1, z1_1_1, m1_1_1, c_1_1_1, yz1_1_1, t1_1_1⟩ := hfl1_1 1 _ rfl
  obtain ⟨a1_1_1, n1_1_1, c1_1_1, rfl, ⟨x1_1_1, r1_1_1, o1_1_1⟩, g1_1_1⟩ := open_rows_v (cells := (fun z => [.int .i64 z])) (ok := (fun z => (Lit.int .i64 z).wf = true)) (k := 1) Try.underlying38 (by kernel_rfl) (by decide) (el_int Try.underlying3) t1_1_1
  have s1_1_1 : c1_1_1 * 8 ≤ 140737488351232 := by
    rcases g1_1_1 with ⟨_, _, hc, _⟩ | ⟨elems, sp, hd, hl, hs⟩
    · subst hc; omega
    · have hb : Try.prog.bytesOf 3 = 8 := by kernel_rfl
      have hle := r1_1_1.le
      have hsp : elems.length + sp.length = c1_1_1 := by rw [hl, hs (fun _ => rfl)]; omega
      have := sized_slice hsf1_1 (j := 1) (t := 38) (e := 3) (elems := elems) (spare := sp) rfl (by rw [List.getElem?_map, yz1_1_1]; exact congrArg some hd) Try.underlying38
      rw [hb, hsp] at this
      simpa [reachBytes] using this
  have ee1_1 := list2 hl1_1 c_1_1_0 c_1_1_1
  simp only [List.cons.injEq, and_true] at ee1_1
  obtain ⟨rfl, rfl⟩ := ee1_1
  refine (walk a0 a1_0 a1_1_0 n1_1_0 c1_1_0 x1_1_0 a1_1_1 n1_1_1 c1_1_1 x1_1_1 W w0 w1_0 r1_1_0 o1_1_0 s1_1_0 r1_1_1 o1_1_1 s1_1_1).mono fun e W' ⟨he, bel⟩ => ?_
  subst he
  exact ⟨_, rfl, _, _, _, [], _, [], hW', trodAll_mk1 (shut_bool Try.underlying4 _), (trodAll_cons_mk (Below.trod laidOut (by kernel_rfl) (of_decide_eq_true (by kernel_rfl)) k0 bel lt0) (trodAll_cons_mk (Below.trod laidOut (by kernel_rfl) (of_decide_eq_true (by kernel_rfl)) k1 bel lt1) trodAll_mk0)), rfl, bel.frame _, fun h => by cases h⟩

theorem over : Rows.pointWritesRow.holds Try.pinned (OpenSpec.ofChange Rows.pointWritesSpec) :=
  OpenClaim.holds_of_wide 8 Try.f8 rfl rfl rfl rfl rfl rfl rfl ⟨rfl, rfl, rfl, rfl, rfl⟩ rfl rfl rfl rfl rfl (by kernel_rfl) Try.func8 (by kernel_rfl)
    (of_decide_eq_true (by kernel_rfl)) (by unfold Func.isWrapper; first | (rw [if_pos (by decide +kernel)]; kernel_rfl) | (rw [if_neg (by decide +kernel)]; exact ⟨rfl, rfl⟩))
    (fun os started H enc _ => lifted os started H enc)

theorem proved : Rows.PointWritesSaid := over
end Go.Proofs.Yteppengbjpdaiaa.lPointWrites
