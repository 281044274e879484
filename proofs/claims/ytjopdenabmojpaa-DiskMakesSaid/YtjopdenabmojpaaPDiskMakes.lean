/- The statement of linenlaw.DiskMakes, from its walk: for every input the law returns true and its arguments read afterwards as before. No condition of ours. -/
import Derived.Test.YtjopdenabmojpaaLDiskMakes
namespace Go.Proofs.Ytjopdenabmojpaa.lDiskMakes
open Go.ChangeShapes Go.WideShapes Go.ChangeAt Go.RowKit Go.Deep
open Go.ChangeMaps (open_string shut_string)
set_option linter.unusedVariables false

theorem own : ownKnob Try.prog.godebug = none := by kernel_rfl
theorem laidOut : laidOutB Try.prog = true := by kernel_rfl

theorem el_PutD {H : Type} {enc : TypeId × Value → H} {w : World} {base : Nat} {spare : Nat → Bool} {held : Bool} : ∀ (m : Nat) (cs : List Value) (y : DataW H × List MemPlace), DataW.trod enc Try.prog w base spare held m 87 cs = some y → ∃ z : PutD, cs = z.cells ∧ z.ok := by
  intro m cs y h
  obtain ⟨hl, ys, _, _, hf⟩ := el_fields Try.underlying87 (by kernel_rfl) (by kernel_rfl) h
  obtain ⟨v0, z0, m0, c0, _, t0⟩ := hf 0 _ rfl
  obtain ⟨a0, e0, _, w0⟩ := DataW.trod_int Try.underlying3 t0
  simp only [List.cons.injEq, and_true] at e0
  subst e0
  obtain ⟨v1, z1, m1, c1, _, t1⟩ := hf 1 _ rfl
  obtain ⟨a1, e1, _, w1⟩ := DataW.trod_string Try.underlying9 t1
  simp only [List.cons.injEq, and_true] at e1
  subst e1
  exact ⟨⟨a0, a1⟩, list2 hl c0 c1, ⟨w0, w1⟩⟩

set_option maxRecDepth 100000 in
theorem lifted (os : Os) (started : os.Started) (H : Type) (enc : TypeId × Value → H) :
    ReturnsInHanded {} Try.checked os 4 .any (Rows.diskMakesSpec.pre6 enc Try.prog Try.f4 Rows.diskMakesRow.domain false) (Rows.diskMakesSpec.post enc Try.prog Try.f4 false true false false) := by
  refine returnsInHanded_of_change_sized (C := Try.checked) own started (by kernel_rfl) Try.func4
    (ChangeSpec.witness6 (enc := enc) (C := Try.checked) false ⟨#[], #[.int .i64 0, .agg #[.slice none 0 0, .slice none 0 0]], []⟩ 8 (by kernel_rfl) (by kernel_rfl) (by kernel_rfl) (by kernel_rfl)) ?_
  intro W base args ds gs before hval0 hW hcnd hsz0 _
  have hval : ∀ (j : Nat) t v, Try.f4.params[j]? = some t → args[j]? = some v → Value.okWide Try.prog W .any base t v := hval0
  have hW' := hW
  obtain ⟨p, q, hA0, hV, rfl, hfz, hnd⟩ := hW
  have hA : DataW.TrodAll enc Try.prog W 0 (fun _ => true) true Try.f4.params.toList args.toList ds p := hA0
  rw [Try.params4] at hA hval
  obtain ⟨v0, vs0, d0, ds0, p0, q0, hargs, rfl, rfl, h0, t0⟩ := trodAll_cons hA
  obtain ⟨v1, vs1, d1, ds1, p1, q1, rfl, rfl, rfl, h1, t1⟩ := trodAll_cons t0
  obtain ⟨rfl, rfl, rfl⟩ := trodAll_nil t1
  obtain rfl : args = #[v0, v1] := by cases args; simp_all
  obtain ⟨rfl, rfl⟩ := trodVars_none hV
  have k0 := h0
  have lt0 : ∀ x ∈ p0, x.block < W.heap.size := by obtain ⟨m, hm⟩ := k0; exact DataW.trod_lt m _ _ _ hm
  have k1 := h1
  have lt1 : ∀ x ∈ p1, x.block < W.heap.size := by obtain ⟨m, hm⟩ := k1; exact DataW.trod_lt m _ _ _ hm
  have hsz : (DataW.weightsEach Try.prog [3, 32] [d0, d1]).all (· ≤ reachBytes) = true := by have := hsz0; rw [Try.params4] at this; exact this
  obtain ⟨a0, rfl, rfl, rfl, w0⟩ := open_int Try.underlying3 (hval 0 3 v0 rfl rfl) h0
  obtain ⟨⟨l1⟩, rfl, _⟩ := okWide_struct Try.underlying32 (hval 1 32 v1 rfl rfl)
  obtain ⟨fuel1, hf1⟩ := h1
  obtain ⟨hl1, ys1, hyl1, hy1, hfl1⟩ := el_fields Try.underlying32 (by kernel_rfl) (by kernel_rfl) hf1
  have hd1 : d1 = .agg (ys1.map (·.1)) := congrArg Prod.fst hy1
  have hsf1 := sized_agg hsz (j := 1) (t := 32) rfl (congrArg some hd1) Try.underlying32
  obtain ⟨v1_0, z1_0, m1_0, c_1_0, yz1_0, t1_0⟩ := hfl1 0 _ rfl
  obtain ⟨a1_0, n1_0, c1_0, rfl, ⟨x1_0, r1_0, o1_0⟩, g1_0⟩ := open_rows_v (cells := (fun z => [.string z])) (ok := (fun z => z.size ≤ maxLen)) (k := 1) Try.underlying29 (by kernel_rfl) (by decide) (el_string Try.underlying9) t1_0
  have s1_0 : c1_0 * 16 ≤ 140737488351232 := by
    rcases g1_0 with ⟨_, _, hc, _⟩ | ⟨elems, sp, hd, hl, hs⟩
    · subst hc; omega
    · have hb : Try.prog.bytesOf 9 = 16 := by kernel_rfl
      have hle := r1_0.le
      have hsp : elems.length + sp.length = c1_0 := by rw [hl, hs (fun _ => rfl)]; omega
      have := sized_slice hsf1 (j := 0) (t := 29) (e := 9) (elems := elems) (spare := sp) rfl (by rw [List.getElem?_map, yz1_0]; exact congrArg some hd) Try.underlying29
      rw [hb, hsp] at this
      simpa [reachBytes] using this
  obtain ⟨v1_1, z1_1, m1_1, c_1_1, yz1_1, t1_1⟩ := hfl1 1 _ rfl
  obtain ⟨a1_1, n1_1, c1_1, rfl, ⟨x1_1, r1_1, o1_1⟩, g1_1⟩ := open_rows_v (cells := PutD.cells) (ok := PutD.ok) (k := 2) Try.underlying30 (by kernel_rfl) (by decide) (el_PutD (enc := enc)) t1_1
  have s1_1 : c1_1 * 24 ≤ 140737488351232 := by
    rcases g1_1 with ⟨_, _, hc, _⟩ | ⟨elems, sp, hd, hl, hs⟩
    · subst hc; omega
    · have hb : Try.prog.bytesOf 87 = 24 := by kernel_rfl
      have hle := r1_1.le
      have hsp : elems.length + sp.length = c1_1 := by rw [hl, hs (fun _ => rfl)]; omega
      have := sized_slice hsf1 (j := 1) (t := 30) (e := 87) (elems := elems) (spare := sp) rfl (by rw [List.getElem?_map, yz1_1]; exact congrArg some hd) Try.underlying30
      rw [hb, hsp] at this
      simpa [reachBytes] using this
  obtain rfl := list2 hl1 c_1_0 c_1_1
  refine (walk a0 a1_0 n1_0 c1_0 x1_0 a1_1 n1_1 c1_1 x1_1 W w0 r1_0 o1_0 s1_0 r1_1 o1_1 s1_1).mono fun e W' ⟨he, bel⟩ => ?_
  subst he
  exact ⟨_, rfl, _, _, _, [], _, [], hW', trodAll_mk1 (shut_bool Try.underlying4 _), (trodAll_cons_mk (Below.trod laidOut (by kernel_rfl) (of_decide_eq_true (by kernel_rfl)) k0 bel lt0) (trodAll_cons_mk (Below.trod laidOut (by kernel_rfl) (of_decide_eq_true (by kernel_rfl)) k1 bel lt1) trodAll_mk0)), rfl, bel.frame _, fun h => by cases h⟩

theorem over : Rows.diskMakesRow.holds Try.pinned (OpenSpec.ofChange Rows.diskMakesSpec) :=
  OpenClaim.holds_of_wide 4 Try.f4 rfl rfl rfl rfl rfl rfl rfl ⟨rfl, rfl, rfl, rfl, rfl⟩ rfl rfl rfl rfl rfl (by kernel_rfl) Try.func4 (by kernel_rfl)
    (of_decide_eq_true (by kernel_rfl)) (by unfold Func.isWrapper; first | (rw [if_pos (by decide +kernel)]; kernel_rfl) | (rw [if_neg (by decide +kernel)]; exact ⟨rfl, rfl⟩))
    (fun os started H enc _ => lifted os started H enc)

theorem proved : Rows.DiskMakesSaid := over
end Go.Proofs.Ytjopdenabmojpaa.lDiskMakes
