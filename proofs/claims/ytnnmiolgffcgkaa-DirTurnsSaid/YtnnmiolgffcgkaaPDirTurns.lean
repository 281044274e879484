/- The statement of linenlaw.DirTurns, from its walk: for every input the law returns true and its arguments read afterwards as before. No condition of ours. -/
import Derived.Test.YtnnmiolgffcgkaaLDirTurns
namespace Go.Proofs.Ytnnmiolgffcgkaa.lDirTurns
open Go.ChangeShapes Go.WideShapes Go.ChangeAt Go.RowKit Go.Deep
open Go.ChangeMaps (open_string shut_string)
set_option linter.unusedVariables false

theorem own : ownKnob Try.prog.godebug = none := by kernel_rfl
theorem laidOut : laidOutB Try.prog = true := by kernel_rfl

theorem el_EntD {H : Type} {enc : TypeId × Value → H} {w : World} {base : Nat} {spare : Nat → Bool} {held : Bool} : ∀ (m : Nat) (cs : List Value) (y : DataW H × List MemPlace), DataW.trod enc Try.prog w base spare held m 44 cs = some y → ∃ z : EntD, cs = z.cells ∧ z.ok := by
  intro m cs y h
  obtain ⟨hl, ys, _, _, hf⟩ := el_fields Try.underlying44 (by kernel_rfl) (by kernel_rfl) h
  obtain ⟨v0, z0, m0, c0, _, t0⟩ := hf 0 _ rfl
  obtain ⟨a0, e0, _, w0⟩ := DataW.trod_string Try.underlying9 t0
  simp only [List.cons.injEq, and_true] at e0
  subst e0
  obtain ⟨v1, z1, m1, c1, _, t1⟩ := hf 1 _ rfl
  obtain ⟨a1, e1, _, w1⟩ := DataW.trod_int Try.underlying3 t1
  simp only [List.cons.injEq, and_true] at e1
  subst e1
  exact ⟨⟨a0, a1⟩, list2 hl c0 c1, ⟨w0, w1⟩⟩

set_option maxRecDepth 100000 in
theorem lifted (os : Os) (started : os.Started) (H : Type) (enc : TypeId × Value → H) :
    ReturnsInHanded {} Try.checked os 7 .any (Rows.dirTurnsSpec.pre6 enc Try.prog Try.f7 Rows.dirTurnsRow.domain false) (Rows.dirTurnsSpec.post enc Try.prog Try.f7 false true false false) := by
  refine returnsInHanded_of_change_sized (C := Try.checked) own started (by kernel_rfl) Try.func7
    (ChangeSpec.witness6 (enc := enc) (C := Try.checked) false ⟨#[], #[.slice none 0 0, .agg #[.string ByteArray.empty, .int .i64 0]], []⟩ 8 (by kernel_rfl) (by kernel_rfl) (by kernel_rfl) (by kernel_rfl)) ?_
  intro W base args ds gs before hval0 hW hcnd hsz0 _
  have hval : ∀ (j : Nat) t v, Try.f7.params[j]? = some t → args[j]? = some v → Value.okWide Try.prog W .any base t v := hval0
  have hW' := hW
  obtain ⟨p, q, hA0, hV, rfl, hfz, hnd⟩ := hW
  have hA : DataW.TrodAll enc Try.prog W 0 (fun _ => true) true Try.f7.params.toList args.toList ds p := hA0
  rw [Try.params7] at hA hval
  obtain ⟨v0, vs0, d0, ds0, p0, q0, hargs, rfl, rfl, h0, t0⟩ := trodAll_cons hA
  obtain ⟨v1, vs1, d1, ds1, p1, q1, rfl, rfl, rfl, h1, t1⟩ := trodAll_cons t0
  obtain ⟨rfl, rfl, rfl⟩ := trodAll_nil t1
  obtain rfl : args = #[v0, v1] := by cases args; simp_all
  obtain ⟨rfl, rfl⟩ := trodVars_none hV
  have k0 := h0
  have lt0 : ∀ x ∈ p0, x.block < W.heap.size := by obtain ⟨m, hm⟩ := k0; exact DataW.trod_lt m _ _ _ hm
  have k1 := h1
  have lt1 : ∀ x ∈ p1, x.block < W.heap.size := by obtain ⟨m, hm⟩ := k1; exact DataW.trod_lt m _ _ _ hm
  have hsz : (DataW.weightsEach Try.prog [42, 44] [d0, d1]).all (· ≤ reachBytes) = true := by have := hsz0; rw [Try.params7] at this; exact this
  obtain ⟨a0, n0, c0, rfl⟩ := okWide_slice Try.underlying42 (hval 0 42 v0 rfl rfl)
  obtain ⟨x0, r0, o0, s0⟩ : ∃ xs : List EntD, RowsIn W W.heap.size a0 n0 c0 EntD.cells 2 xs ∧ (∀ z ∈ xs, EntD.ok z) ∧ c0 * 24 ≤ 140737488351232 := by
    obtain ⟨fuel, hf⟩ := h0
    obtain ⟨⟨xs, hr, ho⟩, hd⟩ := open_rows (ok := EntD.ok) (k := 2) Try.underlying42 (by kernel_rfl) (by decide) (el_EntD (enc := enc)) hf
    refine ⟨xs, hr, ho, ?_⟩
    rcases hd with ⟨_, _, hc, _⟩ | ⟨elems, sp, hd, hl, hs⟩
    · subst hc; omega
    · have hb : Try.prog.bytesOf 44 = 24 := by kernel_rfl
      have hle := hr.le
      have hsp : elems.length + sp.length = c0 := by rw [hl, hs (fun _ => rfl)]; omega
      have := sized_slice hsz (j := 0) (t := 42) (e := 44) (elems := elems) (spare := sp) rfl (congrArg some hd) Try.underlying42
      rw [hb, hsp] at this
      simpa [reachBytes] using this
  obtain ⟨⟨l1⟩, rfl, _⟩ := okWide_struct Try.underlying44 (hval 1 44 v1 rfl rfl)
  obtain ⟨a1, e1, w1⟩ : ∃ z : EntD, l1 = z.cells ∧ z.ok := by
    obtain ⟨fuel, hf⟩ := h1
    exact (el_EntD (enc := enc)) _ _ _ hf
  subst e1
  refine (walk a0 n0 c0 x0 a1 W r0 o0 s0 w1).mono fun e W' ⟨he, bel⟩ => ?_
  subst he
  exact ⟨_, rfl, _, _, _, [], _, [], hW', trodAll_mk1 (shut_bool Try.underlying4 _), (trodAll_cons_mk (Below.trod laidOut (by kernel_rfl) (of_decide_eq_true (by kernel_rfl)) k0 bel lt0) (trodAll_cons_mk (Below.trod laidOut (by kernel_rfl) (of_decide_eq_true (by kernel_rfl)) k1 bel lt1) trodAll_mk0)), rfl, bel.frame _, fun h => by cases h⟩

theorem over : Rows.dirTurnsRow.holds Try.pinned (OpenSpec.ofChange Rows.dirTurnsSpec) :=
  OpenClaim.holds_of_wide 7 Try.f7 rfl rfl rfl rfl rfl rfl rfl ⟨rfl, rfl, rfl, rfl, rfl⟩ rfl rfl rfl rfl rfl (by kernel_rfl) Try.func7 (by kernel_rfl)
    (of_decide_eq_true (by kernel_rfl)) (by unfold Func.isWrapper; first | (rw [if_pos (by decide +kernel)]; kernel_rfl) | (rw [if_neg (by decide +kernel)]; exact ⟨rfl, rfl⟩))
    (fun os started H enc _ => lifted os started H enc)

theorem proved : Rows.DirTurnsSaid := over
end Go.Proofs.Ytnnmiolgffcgkaa.lDirTurns
