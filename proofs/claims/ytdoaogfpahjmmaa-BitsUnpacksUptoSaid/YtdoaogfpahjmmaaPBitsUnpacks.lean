/- The statement of linenlaw.BitsUnpacks, from its walk: the law returns true and its arguments read afterwards as before, for all arguments of together at most 1048576 values and letters (the second form's own bound). -/
import Derived.Test.YtdoaogfpahjmmaaLBitsUnpacks
import Derived.Test.YtdoaogfpahjmmaaLeav
import Derived.Test.YtdoaogfpahjmmaaBulk
namespace Go.Proofs.Ytdoaogfpahjmmaa.lBitsUnpacks
open Go.ChangeShapes Go.WideShapes Go.ChangeAt Go.RowKit Go.Deep
open Go.ChangeMaps (open_string shut_string)
set_option linter.unusedVariables false

theorem own : ownKnob Try.prog.godebug = none := by kernel_rfl
theorem laidOut : laidOutB Try.prog = true := by kernel_rfl

set_option maxRecDepth 100000 in
theorem lifted (os : Os) (started : os.Started) (H : Type) (enc : TypeId × Value → H) (F : Stop.Interp) :
    ReturnsInHanded {} Try.checked os 12 .any ((Rows.OpenSpec.upto Rows.bitsUnpacksSpec).pre6 enc Try.prog Try.f12 Rows.bitsUnpacksUptoRow.domain false) (((Rows.OpenSpec.upto Rows.bitsUnpacksSpec).at F).post enc Try.prog Try.f12 false true false false) := by
  refine returnsInHanded_of_cond_sized (C := Try.checked) (s := Rows.OpenSpec.upto Rows.bitsUnpacksSpec) (k := Rows.uptoSmall) rfl own started (by kernel_rfl) Try.func12
    (OpenSpec.witness (enc := enc) (C := Try.checked) (s := Rows.OpenSpec.upto Rows.bitsUnpacksSpec) (k := Rows.uptoSmall) rfl false ⟨#[], #[.string ByteArray.empty, .slice none 0 0], []⟩ 8 (by kernel_rfl) (by kernel_rfl) (by kernel_rfl)
      (x := ([.lit (.string []), .nil], [], [])) (by kernel_rfl) rfl (by kernel_rfl)) ?_
  intro W base args ds gs before hval0 hW hcnd hk0 hsz0 _
  have hk1 := hk0
  have hval : ∀ (j : Nat) t v, Try.f12.params[j]? = some t → args[j]? = some v → Value.okWide Try.prog W .any base t v := hval0
  have hW' := hW
  obtain ⟨p, q, hA0, hV, rfl, hfz, hnd⟩ := hW
  have hA : DataW.TrodAll enc Try.prog W 0 (fun _ => true) true Try.f12.params.toList args.toList ds p := hA0
  rw [Try.params12] at hA hval
  obtain ⟨v0, vs0, d0, ds0, p0, q0, hargs, rfl, rfl, h0, t0⟩ := trodAll_cons hA
  obtain ⟨v1, vs1, d1, ds1, p1, q1, rfl, rfl, rfl, h1, t1⟩ := trodAll_cons t0
  obtain ⟨rfl, rfl, rfl⟩ := trodAll_nil t1
  obtain rfl : args = #[v0, v1] := by cases args; simp_all
  obtain ⟨rfl, rfl⟩ := trodVars_none hV
  have k0 := h0
  have lt0 : ∀ x ∈ p0, x.block < W.heap.size := by obtain ⟨m, hm⟩ := k0; exact DataW.trod_lt m _ _ _ hm
  have k1 := h1
  have lt1 : ∀ x ∈ p1, x.block < W.heap.size := by obtain ⟨m, hm⟩ := k1; exact DataW.trod_lt m _ _ _ hm
  have hk : Rows.uptoSmall H [d0, d1] = true := by simpa using hk1
  obtain ⟨a0, rfl, rfl, rfl, _⟩ := open_string Try.underlying9 (hval 0 9 v0 rfl rfl) h0
  have w0 : a0.size ≤ 1048575 := by have := bulk_string hk (b := a0.data.toList) (by simp); simpa using this
  obtain ⟨a1, n1, c1, rfl⟩ := okWide_slice Try.underlying22 (hval 1 22 v1 rfl rfl)
  obtain ⟨x1, r1, o1, s1⟩ : ∃ xs : List Int, RowsIn W W.heap.size a1 n1 c1 (fun z => [.int .i64 z]) 1 xs ∧ (∀ z ∈ xs, (fun z => (Lit.int .i64 z).wf = true) z) ∧ c1 ≤ 1048575 := by
    obtain ⟨fuel, hf⟩ := h1
    obtain ⟨⟨xs, hr, ho⟩, hd⟩ := open_rows (ok := (fun z => (Lit.int .i64 z).wf = true)) (k := 1) Try.underlying22 (by kernel_rfl) (by decide) (el_int Try.underlying3) hf
    refine ⟨xs, hr, ho, ?_⟩
    rcases hd with ⟨_, _, hc, _⟩ | ⟨elems, sp, hd, hl, hs⟩
    · subst hc; omega
    · have hle := hr.le
      have hsp : elems.length + sp.length = c1 := by rw [hl, hs (fun _ => rfl)]; omega
      have hd' : d1 = .slice elems sp := hd
      have := bulk_slice hk (e := elems) (s := sp) (by rw [← hd']; simp)
      omega
  refine (walk a0 a1 n1 c1 x1 W w0 r1 o1 s1).mono fun e W' ⟨he, bel⟩ => ?_
  subst he
  exact ⟨_, rfl, _, _, _, [], _, [], hW', trodAll_mk1 (shut_bool Try.underlying4 _), (trodAll_cons_mk (Below.trod laidOut (by kernel_rfl) (of_decide_eq_true (by kernel_rfl)) k0 bel lt0) (trodAll_cons_mk (Below.trod laidOut (by kernel_rfl) (of_decide_eq_true (by kernel_rfl)) k1 bel lt1) trodAll_mk0)), rfl, bel.frame _, fun h => by cases h⟩

theorem over : Rows.bitsUnpacksUptoRow.holds Try.pinned (Rows.OpenSpec.upto Rows.bitsUnpacksSpec) :=
  holds_leaving rfl rfl rfl rfl (OpenClaim.holds_of_cond 12 Try.f12 rfl rfl rfl rfl rfl rfl rfl ⟨rfl, rfl, rfl, rfl, rfl⟩ rfl rfl rfl rfl rfl (by kernel_rfl) Try.func12 (by kernel_rfl)
    (of_decide_eq_true (by kernel_rfl)) (by unfold Func.isWrapper; first | (rw [if_pos (by decide +kernel)]; kernel_rfl) | (rw [if_neg (by decide +kernel)]; exact ⟨rfl, rfl⟩))
    (fun os started H enc _ F => lifted os started H enc F))

theorem proved : Rows.BitsUnpacksUptoSaid := over
end Go.Proofs.Ytdoaogfpahjmmaa.lBitsUnpacks
