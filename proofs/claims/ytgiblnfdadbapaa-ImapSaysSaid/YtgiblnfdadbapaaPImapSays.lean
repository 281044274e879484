/- The statement of linenlaw.ImapSays, from its walk: for every input the law returns true and its arguments read afterwards as before. No condition of ours. -/
import Derived.Test.YtgiblnfdadbapaaLImapSays
namespace Go.Proofs.Ytgiblnfdadbapaa.lImapSays
open Go.ChangeShapes Go.WideShapes Go.ChangeAt Go.RowKit Go.Deep
open Go.ChangeMaps (open_string shut_string)
set_option linter.unusedVariables false

theorem own : ownKnob Try.prog.godebug = none := by kernel_rfl
theorem laidOut : laidOutB Try.prog = true := by kernel_rfl

theorem el_PlaceD {H : Type} {enc : TypeId × Value → H} {w : World} {base : Nat} {spare : Nat → Bool} {held : Bool} : ∀ (m : Nat) (cs : List Value) (y : DataW H × List MemPlace), DataW.trod enc Try.prog w base spare held m 34 cs = some y → ∃ z : PlaceD, cs = z.cells ∧ z.ok := by
  intro m cs y h
  obtain ⟨hl, ys, _, _, hf⟩ := el_fields Try.underlying34 (by kernel_rfl) (by kernel_rfl) h
  obtain ⟨v0, z0, m0, c0, _, t0⟩ := hf 0 _ rfl
  obtain ⟨a0, e0, _, w0⟩ := DataW.trod_int Try.underlying3 t0
  simp only [List.cons.injEq, and_true] at e0
  subst e0
  obtain ⟨v1, z1, m1, c1, _, t1⟩ := hf 1 _ rfl
  obtain ⟨a1, e1, _, w1⟩ := DataW.trod_int Try.underlying3 t1
  simp only [List.cons.injEq, and_true] at e1
  subst e1
  exact ⟨⟨a0, a1⟩, list2 hl c0 c1, ⟨w0, w1⟩⟩

set_option maxRecDepth 100000 in
theorem lifted (os : Os) (started : os.Started) (H : Type) (enc : TypeId × Value → H) :
    ReturnsInHanded {} Try.checked os 3 .any (Rows.imapSaysSpec.pre6 enc Try.prog Try.f3 Rows.imapSaysRow.domain false) (Rows.imapSaysSpec.post enc Try.prog Try.f3 false true false false) := by
  refine returnsInHanded_of_change_sized (C := Try.checked) own started (by kernel_rfl) Try.func3
    (ChangeSpec.witness6 (enc := enc) (C := Try.checked) false ⟨#[], #[.agg #[.slice none 0 0, .slice none 0 0]], []⟩ 8 (by kernel_rfl) (by kernel_rfl) (by kernel_rfl) (by kernel_rfl)) ?_
  intro W base args ds gs before hval0 hW hcnd hsz0 _
  have hval : ∀ (j : Nat) t v, Try.f3.params[j]? = some t → args[j]? = some v → Value.okWide Try.prog W .any base t v := hval0
  have hW' := hW
  obtain ⟨p, q, hA0, hV, rfl, hfz, hnd⟩ := hW
  have hA : DataW.TrodAll enc Try.prog W 0 (fun _ => true) true Try.f3.params.toList args.toList ds p := hA0
  rw [Try.params3] at hA hval
  obtain ⟨v0, vs0, d0, ds0, p0, q0, hargs, rfl, rfl, h0, t0⟩ := trodAll_cons hA
  obtain ⟨rfl, rfl, rfl⟩ := trodAll_nil t0
  obtain rfl : args = #[v0] := by cases args; simp_all
  obtain ⟨rfl, rfl⟩ := trodVars_none hV
  have k0 := h0
  have lt0 : ∀ x ∈ p0, x.block < W.heap.size := by obtain ⟨m, hm⟩ := k0; exact DataW.trod_lt m _ _ _ hm
  have hsz : (DataW.weightsEach Try.prog [25] [d0]).all (· ≤ reachBytes) = true := by have := hsz0; rw [Try.params3] at this; exact this
  obtain ⟨⟨l0⟩, rfl, _⟩ := okWide_struct Try.underlying25 (hval 0 25 v0 rfl rfl)
  obtain ⟨fuel0, hf0⟩ := h0
  obtain ⟨hl0, ys0, hyl0, hy0, hfl0⟩ := el_fields Try.underlying25 (by kernel_rfl) (by kernel_rfl) hf0
  have hd0 : d0 = .agg (ys0.map (·.1)) := congrArg Prod.fst hy0
  have hsf0 := sized_agg hsz (j := 0) (t := 25) rfl (congrArg some hd0) Try.underlying25
  obtain ⟨v0_0, z0_0, m0_0, c_0_0, yz0_0, t0_0⟩ := hfl0 0 _ rfl
  obtain ⟨a0_0, n0_0, c0_0, rfl, ⟨x0_0, r0_0, o0_0⟩, g0_0⟩ := open_rows_v (cells := PlaceD.cells) (ok := PlaceD.ok) (k := 2) Try.underlying22 (by kernel_rfl) (by decide) (el_PlaceD (enc := enc)) t0_0
  have s0_0 : c0_0 * 16 ≤ 140737488351232 := by
    rcases g0_0 with ⟨_, _, hc, _⟩ | ⟨elems, sp, hd, hl, hs⟩
    · subst hc; omega
    · have hb : Try.prog.bytesOf 34 = 16 := by kernel_rfl
      have hle := r0_0.le
      have hsp : elems.length + sp.length = c0_0 := by rw [hl, hs (fun _ => rfl)]; omega
      have := sized_slice hsf0 (j := 0) (t := 22) (e := 34) (elems := elems) (spare := sp) rfl (by rw [List.getElem?_map, yz0_0]; exact congrArg some hd) Try.underlying22
      rw [hb, hsp] at this
      simpa [reachBytes] using this
  obtain ⟨v0_1, z0_1, m0_1, c_0_1, yz0_1, t0_1⟩ := hfl0 1 _ rfl
  obtain ⟨a0_1, n0_1, c0_1, rfl, ⟨x0_1, r0_1, o0_1⟩, g0_1⟩ := open_rows_v (cells := (fun z => [.int .i64 z])) (ok := (fun z => (Lit.int .i64 z).wf = true)) (k := 1) Try.underlying23 (by kernel_rfl) (by decide) (el_int Try.underlying3) t0_1
  have s0_1 : c0_1 * 8 ≤ 140737488351232 := by
    rcases g0_1 with ⟨_, _, hc, _⟩ | ⟨elems, sp, hd, hl, hs⟩
    · subst hc; omega
    · have hb : Try.prog.bytesOf 3 = 8 := by kernel_rfl
      have hle := r0_1.le
      have hsp : elems.length + sp.length = c0_1 := by rw [hl, hs (fun _ => rfl)]; omega
      have := sized_slice hsf0 (j := 1) (t := 23) (e := 3) (elems := elems) (spare := sp) rfl (by rw [List.getElem?_map, yz0_1]; exact congrArg some hd) Try.underlying23
      rw [hb, hsp] at this
      simpa [reachBytes] using this
  obtain rfl := list2 hl0 c_0_0 c_0_1
  refine (walk a0_0 n0_0 c0_0 x0_0 a0_1 n0_1 c0_1 x0_1 W r0_0 o0_0 s0_0 r0_1 o0_1 s0_1).mono fun e W' ⟨he, bel⟩ => ?_
  subst he
  exact ⟨_, rfl, _, _, _, [], _, [], hW', trodAll_mk1 (shut_bool Try.underlying4 _), (trodAll_cons_mk (Below.trod laidOut (by kernel_rfl) (of_decide_eq_true (by kernel_rfl)) k0 bel lt0) trodAll_mk0), rfl, bel.frame _, fun h => by cases h⟩

theorem over : Rows.imapSaysRow.holds Try.pinned (OpenSpec.ofChange Rows.imapSaysSpec) :=
  OpenClaim.holds_of_wide 3 Try.f3 rfl rfl rfl rfl rfl rfl rfl ⟨rfl, rfl, rfl, rfl, rfl⟩ rfl rfl rfl rfl rfl (by kernel_rfl) Try.func3 (by kernel_rfl)
    (of_decide_eq_true (by kernel_rfl)) (by unfold Func.isWrapper; first | (rw [if_pos (by decide +kernel)]; kernel_rfl) | (rw [if_neg (by decide +kernel)]; exact ⟨rfl, rfl⟩))
    (fun os started H enc _ => lifted os started H enc)

theorem proved : Rows.ImapSaysSaid := over
end Go.Proofs.Ytgiblnfdadbapaa.lImapSays
