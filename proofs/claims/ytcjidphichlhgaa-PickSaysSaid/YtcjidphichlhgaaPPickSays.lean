/- The statement of linenlaw.PickSays, from its walk: for every input the law returns true and its arguments read afterwards as before. No condition of ours. -/
import Derived.Test.YtcjidphichlhgaaLPickSays
namespace Go.Proofs.Ytcjidphichlhgaa.lPickSays
open Go.ChangeShapes Go.WideShapes Go.ChangeAt Go.RowKit Go.Deep
open Go.ChangeMaps (open_string shut_string)
set_option linter.unusedVariables false

theorem own : ownKnob Try.prog.godebug = none := by kernel_rfl
theorem laidOut : laidOutB Try.prog = true := by kernel_rfl

set_option maxRecDepth 100000 in
theorem lifted (os : Os) (started : os.Started) (H : Type) (enc : TypeId × Value → H) :
    ReturnsInHanded {} Try.checked os 3 .any (Rows.pickSaysSpec.pre6 enc Try.prog Try.f3 Rows.pickSaysRow.domain false) (Rows.pickSaysSpec.post enc Try.prog Try.f3 false true false false) := by
  refine returnsInHanded_of_change_sized (C := Try.checked) own started (by kernel_rfl) Try.func3
    (ChangeSpec.witness6 (enc := enc) (C := Try.checked) false ⟨#[], #[.slice none 0 0, .slice none 0 0], []⟩ 8 (by kernel_rfl) (by kernel_rfl) (by kernel_rfl) (by kernel_rfl)) ?_
  intro W base args ds gs before hval0 hW hcnd hsz0 _
  have hval : ∀ (j : Nat) t v, Try.f3.params[j]? = some t → args[j]? = some v → Value.okWide Try.prog W .any base t v := hval0
  have hW' := hW
  obtain ⟨p, q, hA0, hV, rfl, hfz, hnd⟩ := hW
  have hA : DataW.TrodAll enc Try.prog W 0 (fun _ => true) true Try.f3.params.toList args.toList ds p := hA0
  rw [Try.params3] at hA hval
  obtain ⟨v0, vs0, d0, ds0, p0, q0, hargs, rfl, rfl, h0, t0⟩ := trodAll_cons hA
  obtain ⟨v1, vs1, d1, ds1, p1, q1, rfl, rfl, rfl, h1, t1⟩ := trodAll_cons t0
  obtain ⟨rfl, rfl, rfl⟩ := trodAll_nil t1
  obtain rfl : args = #[v0, v1] := by cases args; simp_all
  obtain ⟨rfl, rfl⟩ := trodVars_none hV
  have k0 := h0
  have lt0 : ∀ x ∈ p0, x.block < W.heap.size := by obtain ⟨m, hm⟩ := k0; exact DataW.trod_lt m _ _ _ hm
  have k1 := h1
  have lt1 : ∀ x ∈ p1, x.block < W.heap.size := by obtain ⟨m, hm⟩ := k1; exact DataW.trod_lt m _ _ _ hm
  have hsz : (DataW.weightsEach Try.prog [22, 22] [d0, d1]).all (· ≤ reachBytes) = true := by have := hsz0; rw [Try.params3] at this; exact this
  obtain ⟨a0, n0, c0, rfl⟩ := okWide_slice Try.underlying22 (hval 0 22 v0 rfl rfl)
  obtain ⟨x0, r0, o0, s0⟩ : ∃ xs : List Int, RowsIn W W.heap.size a0 n0 c0 (fun z => [.int .i64 z]) 1 xs ∧ (∀ z ∈ xs, (fun z => (Lit.int .i64 z).wf = true) z) ∧ c0 * 8 ≤ 140737488351232 := by
    obtain ⟨fuel, hf⟩ := h0
    obtain ⟨⟨xs, hr, ho⟩, hd⟩ := open_rows (ok := (fun z => (Lit.int .i64 z).wf = true)) (k := 1) Try.underlying22 (by kernel_rfl) (by decide) (el_int Try.underlying3) hf
    refine ⟨xs, hr, ho, ?_⟩
    rcases hd with ⟨_, _, hc, _⟩ | ⟨elems, sp, hd, hl, hs⟩
    · subst hc; omega
    · have hb : Try.prog.bytesOf 3 = 8 := by kernel_rfl
      have hle := hr.le
      have hsp : elems.length + sp.length = c0 := by rw [hl, hs (fun _ => rfl)]; omega
      have := sized_slice hsz (j := 0) (t := 22) (e := 3) (elems := elems) (spare := sp) rfl (congrArg some hd) Try.underlying22
      rw [hb, hsp] at this
      simpa [reachBytes] using this
  obtain ⟨a1, n1, c1, rfl⟩ := okWide_slice Try.underlying22 (hval 1 22 v1 rfl rfl)
  obtain ⟨x1, r1, o1, s1⟩ : ∃ xs : List Int, RowsIn W W.heap.size a1 n1 c1 (fun z => [.int .i64 z]) 1 xs ∧ (∀ z ∈ xs, (fun z => (Lit.int .i64 z).wf = true) z) ∧ c1 * 8 ≤ 140737488351232 := by
    obtain ⟨fuel, hf⟩ := h1
    obtain ⟨⟨xs, hr, ho⟩, hd⟩ := open_rows (ok := (fun z => (Lit.int .i64 z).wf = true)) (k := 1) Try.underlying22 (by kernel_rfl) (by decide) (el_int Try.underlying3) hf
    refine ⟨xs, hr, ho, ?_⟩
    rcases hd with ⟨_, _, hc, _⟩ | ⟨elems, sp, hd, hl, hs⟩
    · subst hc; omega
    · have hb : Try.prog.bytesOf 3 = 8 := by kernel_rfl
      have hle := hr.le
      have hsp : elems.length + sp.length = c1 := by rw [hl, hs (fun _ => rfl)]; omega
      have := sized_slice hsz (j := 1) (t := 22) (e := 3) (elems := elems) (spare := sp) rfl (congrArg some hd) Try.underlying22
      rw [hb, hsp] at this
      simpa [reachBytes] using this
  refine (walk a0 n0 c0 x0 a1 n1 c1 x1 W r0 o0 s0 r1 o1 s1).mono fun e W' ⟨he, bel⟩ => ?_
  subst he
  exact ⟨_, rfl, _, _, _, [], _, [], hW', trodAll_mk1 (shut_bool Try.underlying4 _), (trodAll_cons_mk (Below.trod laidOut (by kernel_rfl) (of_decide_eq_true (by kernel_rfl)) k0 bel lt0) (trodAll_cons_mk (Below.trod laidOut (by kernel_rfl) (of_decide_eq_true (by kernel_rfl)) k1 bel lt1) trodAll_mk0)), rfl, bel.frame _, fun h => by cases h⟩

theorem over : Rows.pickSaysRow.holds Try.pinned (OpenSpec.ofChange Rows.pickSaysSpec) :=
  OpenClaim.holds_of_wide 3 Try.f3 rfl rfl rfl rfl rfl rfl rfl ⟨rfl, rfl, rfl, rfl, rfl⟩ rfl rfl rfl rfl rfl (by kernel_rfl) Try.func3 (by kernel_rfl)
    (of_decide_eq_true (by kernel_rfl)) (by unfold Func.isWrapper; first | (rw [if_pos (by decide +kernel)]; kernel_rfl) | (rw [if_neg (by decide +kernel)]; exact ⟨rfl, rfl⟩))
    (fun os started H enc _ => lifted os started H enc)

theorem proved : Rows.PickSaysSaid := over
end Go.Proofs.Ytcjidphichlhgaa.lPickSays
