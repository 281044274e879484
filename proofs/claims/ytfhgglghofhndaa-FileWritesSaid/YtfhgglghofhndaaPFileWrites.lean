/- The statement of linenlaw.FileWrites, from its walk: for every input the law returns true and its arguments read afterwards as before. No condition of ours. -/
import Derived.Test.YtfhgglghofhndaaLFileWrites
namespace Go.Proofs.Ytfhgglghofhndaa.lFileWrites
open Go.ChangeShapes Go.WideShapes Go.ChangeAt Go.RowKit Go.Deep
open Go.ChangeMaps (open_string shut_string)
set_option linter.unusedVariables false

theorem own : ownKnob Try.prog.godebug = none := by kernel_rfl
theorem laidOut : laidOutB Try.prog = true := by kernel_rfl

set_option maxRecDepth 100000 in
theorem lifted (os : Os) (started : os.Started) (H : Type) (enc : TypeId × Value → H) :
    ReturnsInHanded {} Try.checked os 5 .any (Rows.fileWritesSpec.pre6 enc Try.prog Try.f5 Rows.fileWritesRow.domain false) (Rows.fileWritesSpec.post enc Try.prog Try.f5 false true false false) := by
  refine returnsInHanded_of_change_sized (C := Try.checked) own started (by kernel_rfl) Try.func5
    (ChangeSpec.witness6 (enc := enc) (C := Try.checked) false ⟨#[], #[.agg #[.int .i64 0, .slice none 0 0], .int .i64 0, .string ByteArray.empty], []⟩ 8 (by kernel_rfl) (by kernel_rfl) (by kernel_rfl) (by kernel_rfl)) ?_
  intro W base args ds gs before hval0 hW hcnd hsz0 _
  have hval : ∀ (j : Nat) t v, Try.f5.params[j]? = some t → args[j]? = some v → Value.okWide Try.prog W .any base t v := hval0
  have hW' := hW
  obtain ⟨p, q, hA0, hV, rfl, hfz, hnd⟩ := hW
  have hA : DataW.TrodAll enc Try.prog W 0 (fun _ => true) true Try.f5.params.toList args.toList ds p := hA0
  rw [Try.params5] at hA hval
  obtain ⟨v0, vs0, d0, ds0, p0, q0, hargs, rfl, rfl, h0, t0⟩ := trodAll_cons hA
  obtain ⟨v1, vs1, d1, ds1, p1, q1, rfl, rfl, rfl, h1, t1⟩ := trodAll_cons t0
  obtain ⟨v2, vs2, d2, ds2, p2, q2, rfl, rfl, rfl, h2, t2⟩ := trodAll_cons t1
  obtain ⟨rfl, rfl, rfl⟩ := trodAll_nil t2
  obtain rfl : args = #[v0, v1, v2] := by cases args; simp_all
  obtain ⟨rfl, rfl⟩ := trodVars_none hV
  have k0 := h0
  have lt0 : ∀ x ∈ p0, x.block < W.heap.size := by obtain ⟨m, hm⟩ := k0; exact DataW.trod_lt m _ _ _ hm
  have k1 := h1
  have lt1 : ∀ x ∈ p1, x.block < W.heap.size := by obtain ⟨m, hm⟩ := k1; exact DataW.trod_lt m _ _ _ hm
  have k2 := h2
  have lt2 : ∀ x ∈ p2, x.block < W.heap.size := by obtain ⟨m, hm⟩ := k2; exact DataW.trod_lt m _ _ _ hm
  have hsz : (DataW.weightsEach Try.prog [24, 3, 9] [d0, d1, d2]).all (· ≤ reachBytes) = true := by have := hsz0; rw [Try.params5] at this; exact this
  obtain ⟨⟨l0⟩, rfl, _⟩ := okWide_struct Try.underlying24 (hval 0 24 v0 rfl rfl)
  obtain ⟨fuel0, hf0⟩ := h0
  obtain ⟨hl0, ys0, hyl0, hy0, hfl0⟩ := el_fields Try.underlying24 (by kernel_rfl) (by kernel_rfl) hf0
  have hd0 : d0 = .agg (ys0.map (·.1)) := congrArg Prod.fst hy0
  have hsf0 := sized_agg hsz (j := 0) (t := 24) rfl (congrArg some hd0) Try.underlying24
  obtain ⟨v0_0, z0_0, m0_0, c_0_0, yz0_0, t0_0⟩ := hfl0 0 _ rfl
  obtain ⟨a0_0, e0_0, _, w0_0⟩ := DataW.trod_int Try.underlying3 t0_0
  simp only [List.cons.injEq, and_true] at e0_0
  subst e0_0
  obtain ⟨v0_1, z0_1, m0_1, c_0_1, yz0_1, t0_1⟩ := hfl0 1 _ rfl
  obtain ⟨a0_1, n0_1, c0_1, rfl, ⟨x0_1, r0_1, o0_1⟩, g0_1⟩ := open_rows_v (cells := (fun z => [.string z])) (ok := (fun z => z.size ≤ maxLen)) (k := 1) Try.underlying22 (by kernel_rfl) (by decide) (el_string Try.underlying9) t0_1
  have s0_1 : c0_1 * 16 ≤ 140737488351232 := by
    rcases g0_1 with ⟨_, _, hc, _⟩ | ⟨elems, sp, hd, hl, hs⟩
    · subst hc; omega
    · have hb : Try.prog.bytesOf 9 = 16 := by kernel_rfl
      have hle := r0_1.le
      have hsp : elems.length + sp.length = c0_1 := by rw [hl, hs (fun _ => rfl)]; omega
      have := sized_slice hsf0 (j := 1) (t := 22) (e := 9) (elems := elems) (spare := sp) rfl (by rw [List.getElem?_map, yz0_1]; exact congrArg some hd) Try.underlying22
      rw [hb, hsp] at this
      simpa [reachBytes] using this
  obtain rfl := list2 hl0 c_0_0 c_0_1
  obtain ⟨a1, rfl, rfl, rfl, w1⟩ := open_int Try.underlying3 (hval 1 3 v1 rfl rfl) h1
  obtain ⟨a2, rfl, rfl, rfl, _⟩ := open_string Try.underlying9 (hval 2 9 v2 rfl rfl) h2
  have w2 : a2.size ≤ 140737488351232 := by have := sized_string hsz (j := 2) (t := 9) rfl rfl; simpa [reachBytes] using this
  refine (walk a0_0 a0_1 n0_1 c0_1 x0_1 a1 a2 W w0_0 r0_1 o0_1 s0_1 w1 w2).mono fun e W' ⟨he, bel⟩ => ?_
  subst he
  exact ⟨_, rfl, _, _, _, [], _, [], hW', trodAll_mk1 (shut_bool Try.underlying4 _), (trodAll_cons_mk (Below.trod laidOut (by kernel_rfl) (of_decide_eq_true (by kernel_rfl)) k0 bel lt0) (trodAll_cons_mk (Below.trod laidOut (by kernel_rfl) (of_decide_eq_true (by kernel_rfl)) k1 bel lt1) (trodAll_cons_mk (Below.trod laidOut (by kernel_rfl) (of_decide_eq_true (by kernel_rfl)) k2 bel lt2) trodAll_mk0))), rfl, bel.frame _, fun h => by cases h⟩

theorem over : Rows.fileWritesRow.holds Try.pinned (OpenSpec.ofChange Rows.fileWritesSpec) :=
  OpenClaim.holds_of_wide 5 Try.f5 rfl rfl rfl rfl rfl rfl rfl ⟨rfl, rfl, rfl, rfl, rfl⟩ rfl rfl rfl rfl rfl (by kernel_rfl) Try.func5 (by kernel_rfl)
    (of_decide_eq_true (by kernel_rfl)) (by unfold Func.isWrapper; first | (rw [if_pos (by decide +kernel)]; kernel_rfl) | (rw [if_neg (by decide +kernel)]; exact ⟨rfl, rfl⟩))
    (fun os started H enc _ => lifted os started H enc)

theorem proved : Rows.FileWritesSaid := over
end Go.Proofs.Ytfhgglghofhndaa.lFileWrites
