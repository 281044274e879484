/- The statement of linenlaw.InodeSays, from its walk: for every input the law returns true and its arguments read afterwards as before. No condition of ours. -/
import Derived.Test.YtjopdenabmojpaaLInodeSays
namespace Go.Proofs.Ytjopdenabmojpaa.lInodeSays
open Go.ChangeShapes Go.WideShapes Go.ChangeAt Go.RowKit Go.Deep
open Go.ChangeMaps (open_string shut_string)
set_option linter.unusedVariables false

theorem own : ownKnob Try.prog.godebug = none := by kernel_rfl
theorem laidOut : laidOutB Try.prog = true := by kernel_rfl

theorem el_PlaceD {H : Type} {enc : TypeId × Value → H} {w : World} {base : Nat} {spare : Nat → Bool} {held : Bool} : ∀ (m : Nat) (cs : List Value) (y : DataW H × List MemPlace), DataW.trod enc Try.prog w base spare held m 63 cs = some y → ∃ z : PlaceD, cs = z.cells ∧ z.ok := by
  intro m cs y h
  obtain ⟨hl, ys, _, _, hf⟩ := el_fields Try.underlying63 (by kernel_rfl) (by kernel_rfl) h
  obtain ⟨v0, z0, m0, c0, _, t0⟩ := hf 0 _ rfl
  obtain ⟨a0, e0, _, w0⟩ := DataW.trod_int Try.underlying3 t0
  simp only [List.cons.injEq, and_true] at e0
  subst e0
  obtain ⟨v1, z1, m1, c1, _, t1⟩ := hf 1 _ rfl
  obtain ⟨a1, e1, _, w1⟩ := DataW.trod_int Try.underlying3 t1
  simp only [List.cons.injEq, and_true] at e1
  subst e1
  exact ⟨⟨a0, a1⟩, list2 hl c0 c1, ⟨w0, w1⟩⟩

set_option maxRecDepth 100000 in
theorem lifted (os : Os) (started : os.Started) (H : Type) (enc : TypeId × Value → H) :
    ReturnsInHanded {} Try.checked os 12 .any (Rows.inodeSaysSpec.pre6 enc Try.prog Try.f12 Rows.inodeSaysRow.domain false) (Rows.inodeSaysSpec.post enc Try.prog Try.f12 false true false false) := by
  refine returnsInHanded_of_change_sized (C := Try.checked) own started (by kernel_rfl) Try.func12
    (ChangeSpec.witness6 (enc := enc) (C := Try.checked) false ⟨#[], #[.agg #[.int .i64 0, .int .i64 0, .int .i64 0, .slice none 0 0], .agg #[.int .i64 0, .int .i64 0]], []⟩ 8 (by kernel_rfl) (by kernel_rfl) (by kernel_rfl) (by kernel_rfl)) ?_
  intro W base args ds gs before hval0 hW hcnd hsz0 _
  have hval : ∀ (j : Nat) t v, Try.f12.params[j]? = some t → args[j]? = some v → Value.okWide Try.prog W .any base t v := hval0
  have hW' := hW
  obtain ⟨p, q, hA0, hV, rfl, hfz, hnd⟩ := hW
  have hA : DataW.TrodAll enc Try.prog W 0 (fun _ => true) true Try.f12.params.toList args.toList ds p := hA0
  rw [Try.params12] at hA hval
  obtain ⟨v0, vs0, d0, ds0, p0, q0, hargs, rfl, rfl, h0, t0⟩ := trodAll_cons hA
  obtain ⟨v1, vs1, d1, ds1, p1, q1, rfl, rfl, rfl, h1, t1⟩ := trodAll_cons t0
  obtain ⟨rfl, rfl, rfl⟩ := trodAll_nil t1
  obtain rfl : args = #[v0, v1] := by cases args; simp_all
  obtain ⟨rfl, rfl⟩ := trodVars_none hV
  have k0 := h0
  have lt0 : ∀ x ∈ p0, x.block < W.heap.size := by obtain ⟨m, hm⟩ := k0; exact DataW.trod_lt m _ _ _ hm
  have k1 := h1
  have lt1 : ∀ x ∈ p1, x.block < W.heap.size := by obtain ⟨m, hm⟩ := k1; exact DataW.trod_lt m _ _ _ hm
  have hsz : (DataW.weightsEach Try.prog [77, 63] [d0, d1]).all (· ≤ reachBytes) = true := by have := hsz0; rw [Try.params12] at this; exact this
  obtain ⟨⟨l0⟩, rfl, _⟩ := okWide_struct Try.underlying77 (hval 0 77 v0 rfl rfl)
  obtain ⟨fuel0, hf0⟩ := h0
  obtain ⟨hl0, ys0, hyl0, hy0, hfl0⟩ := el_fields Try.underlying77 (by kernel_rfl) (by kernel_rfl) hf0
  have hd0 : d0 = .agg (ys0.map (·.1)) := congrArg Prod.fst hy0
  have hsf0 := sized_agg hsz (j := 0) (t := 77) rfl (congrArg some hd0) Try.underlying77
  obtain ⟨v0_0, z0_0, m0_0, c_0_0, yz0_0, t0_0⟩ := hfl0 0 _ rfl
  obtain ⟨a0_0, e0_0, _, w0_0⟩ := DataW.trod_int Try.underlying3 t0_0
  simp only [List.cons.injEq, and_true] at e0_0
  subst e0_0
  obtain ⟨v0_1, z0_1, m0_1, c_0_1, yz0_1, t0_1⟩ := hfl0 1 _ rfl
  obtain ⟨a0_1, e0_1, _, w0_1⟩ := DataW.trod_int Try.underlying3 t0_1
  simp only [List.cons.injEq, and_true] at e0_1
  subst e0_1
  obtain ⟨v0_2, z0_2, m0_2, c_0_2, yz0_2, t0_2⟩ := hfl0 2 _ rfl
  obtain ⟨a0_2, e0_2, _, w0_2⟩ := DataW.trod_int Try.underlying3 t0_2
  simp only [List.cons.injEq, and_true] at e0_2
  subst e0_2
  obtain ⟨v0_3, z0_3, m0_3, c_0_3, yz0_3, t0_3⟩ := hfl0 3 _ rfl
  obtain ⟨a0_3, n0_3, c0_3, rfl, ⟨x0_3, r0_3, o0_3⟩, g0_3⟩ := open_rows_v (cells := PlaceD.cells) (ok := PlaceD.ok) (k := 2) Try.underlying55 (by kernel_rfl) (by decide) (el_PlaceD (enc := enc)) t0_3
  have s0_3 : c0_3 * 16 ≤ 140737488351232 := by
    rcases g0_3 with ⟨_, _, hc, _⟩ | ⟨elems, sp, hd, hl, hs⟩
    · subst hc; omega
    · have hb : Try.prog.bytesOf 63 = 16 := by kernel_rfl
      have hle := r0_3.le
      have hsp : elems.length + sp.length = c0_3 := by rw [hl, hs (fun _ => rfl)]; omega
      have := sized_slice hsf0 (j := 3) (t := 55) (e := 63) (elems := elems) (spare := sp) rfl (by rw [List.getElem?_map, yz0_3]; exact congrArg some hd) Try.underlying55
      rw [hb, hsp] at this
      simpa [reachBytes] using this
  obtain rfl := list4 hl0 c_0_0 c_0_1 c_0_2 c_0_3
  obtain ⟨⟨l1⟩, rfl, _⟩ := okWide_struct Try.underlying63 (hval 1 63 v1 rfl rfl)
  obtain ⟨a1, e1, w1⟩ : ∃ z : PlaceD, l1 = z.cells ∧ z.ok := by
    obtain ⟨fuel, hf⟩ := h1
    exact (el_PlaceD (enc := enc)) _ _ _ hf
  subst e1
  refine (walk a0_0 a0_1 a0_2 a0_3 n0_3 c0_3 x0_3 a1 W w0_0 w0_1 w0_2 r0_3 o0_3 s0_3 w1).mono fun e W' ⟨he, bel⟩ => ?_
  subst he
  exact ⟨_, rfl, _, _, _, [], _, [], hW', trodAll_mk1 (shut_bool Try.underlying4 _), (trodAll_cons_mk (Below.trod laidOut (by kernel_rfl) (of_decide_eq_true (by kernel_rfl)) k0 bel lt0) (trodAll_cons_mk (Below.trod laidOut (by kernel_rfl) (of_decide_eq_true (by kernel_rfl)) k1 bel lt1) trodAll_mk0)), rfl, bel.frame _, fun h => by cases h⟩

theorem over : Rows.inodeSaysRow.holds Try.pinned (OpenSpec.ofChange Rows.inodeSaysSpec) :=
  OpenClaim.holds_of_wide 12 Try.f12 rfl rfl rfl rfl rfl rfl rfl ⟨rfl, rfl, rfl, rfl, rfl⟩ rfl rfl rfl rfl rfl (by kernel_rfl) Try.func12 (by kernel_rfl)
    (of_decide_eq_true (by kernel_rfl)) (by unfold Func.isWrapper; first | (rw [if_pos (by decide +kernel)]; kernel_rfl) | (rw [if_neg (by decide +kernel)]; exact ⟨rfl, rfl⟩))
    (fun os started H enc _ => lifted os started H enc)

theorem proved : Rows.InodeSaysSaid := over
end Go.Proofs.Ytjopdenabmojpaa.lInodeSays
