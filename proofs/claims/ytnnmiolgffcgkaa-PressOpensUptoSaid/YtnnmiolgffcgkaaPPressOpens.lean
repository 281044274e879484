/- The statement of linenlaw.PressOpens, from its walk: the law returns true and its arguments read afterwards as before, for all arguments of together at most 1048576 values and letters (the second form's own bound). -/
import Derived.Test.YtnnmiolgffcgkaaPrJd
import Derived.Test.YtnnmiolgffcgkaaBulk
/- The law PressOpens, walked: it returns true for every text (of at most 1048575 bytes). -/
namespace Go.Proofs.Ytnnmiolgffcgkaa
theorem open_any (t : ByteArray) (w : World) (hs : t.size ≤ 1048575) : Calls Try.prog 24 #[.string t] w (OpPost t w) := by
  by_cases h : t.size = 0
  · exact open_no1 t w h
  · by_cases h1 : gOk (cutB t 1)
    · exact open_ok t w hs h h1
    · exact open_no2 t w hs h h1
theorem ropen_any (t : ByteArray) (w : World) (hs : t.size ≤ 1048575) : Calls Try.prog 25 #[.string t] w (OpPost t w) := by
  by_cases h : t.size = 0
  · exact openr_no1 t w h
  · exact openr_any t w hs h
end Go.Proofs.Ytnnmiolgffcgkaa
namespace Go.Proofs.Ytnnmiolgffcgkaa.lPressOpens
open Go.RowKit

set_option maxRecDepth 20000 in
set_option maxHeartbeats 400000 in
theorem walk (a0 : ByteArray) (w : World) (w0 : a0.size ≤ 1048575) :
    Calls Try.prog 6 #[.string a0] w fun e w' => e = .returned (.bool true) ∧ Below w.heap.size w w' := by
  have H1 := Lib.hid (open_any a0 w w0)
  have H2 : Hid (∀ W, Calls Try.prog 25 #[.string a0] W (OpPost a0 W)) := fun W => ropen_any a0 W w0
  unfold OpPost at H1 H2
  generalize opnR a0 = V at *
  obtain ⟨S, E⟩ := V
  simp only at H1 H2
  clear w0
  go_enter Try.func6, Try.ntmps6
  go_wp2_with (first
    | (go_at_call 24; refine H1.out.mono ?_; rintro e w1 ⟨rfl, hb1⟩)
    | (go_at_call 25; refine (H2.out _).mono ?_; rintro e w2 ⟨rfl, hb2⟩; have HB2 := hb1.trans (hb2.mono hb1.size)))
  go_ret
  exact ⟨rfl, HB2⟩
end Go.Proofs.Ytnnmiolgffcgkaa.lPressOpens

namespace Go.Proofs.Ytnnmiolgffcgkaa.lPressOpens
open Go.ChangeShapes Go.WideShapes Go.ChangeAt Go.RowKit Go.Deep
open Go.ChangeMaps (open_string shut_string)
set_option linter.unusedVariables false

theorem own : ownKnob Try.prog.godebug = none := by kernel_rfl
theorem laidOut : laidOutB Try.prog = true := by kernel_rfl

set_option maxRecDepth 100000 in
theorem lifted (os : Os) (started : os.Started) (H : Type) (enc : TypeId × Value → H) (F : Stop.Interp) :
    ReturnsInHanded {} Try.checked os 6 .any ((Rows.OpenSpec.upto Rows.pressOpensSpec).pre6 enc Try.prog Try.f6 Rows.pressOpensUptoRow.domain false) (((Rows.OpenSpec.upto Rows.pressOpensSpec).at F).post enc Try.prog Try.f6 false true false false) := by
  refine returnsInHanded_of_cond_sized (C := Try.checked) (s := Rows.OpenSpec.upto Rows.pressOpensSpec) (k := Rows.uptoSmall) rfl own started (by kernel_rfl) Try.func6
    (OpenSpec.witness (enc := enc) (C := Try.checked) (s := Rows.OpenSpec.upto Rows.pressOpensSpec) (k := Rows.uptoSmall) rfl false ⟨#[], #[.string ByteArray.empty], []⟩ 8 (by kernel_rfl) (by kernel_rfl) (by kernel_rfl)
      (x := ([.lit (.string [])], [], [])) (by kernel_rfl) rfl (by kernel_rfl)) ?_
  intro W base args ds gs before hval0 hW hcnd hk0 hsz0 _
  have hk1 := hk0
  have hval : ∀ (j : Nat) t v, Try.f6.params[j]? = some t → args[j]? = some v → Value.okWide Try.prog W .any base t v := hval0
  have hW' := hW
  obtain ⟨p, q, hA0, hV, rfl, hfz, hnd⟩ := hW
  have hA : DataW.TrodAll enc Try.prog W 0 (fun _ => true) true Try.f6.params.toList args.toList ds p := hA0
  rw [Try.params6] at hA hval
  obtain ⟨v0, vs0, d0, ds0, p0, q0, hargs, rfl, rfl, h0, t0⟩ := trodAll_cons hA
  obtain ⟨rfl, rfl, rfl⟩ := trodAll_nil t0
  obtain rfl : args = #[v0] := by cases args; simp_all
  obtain ⟨rfl, rfl⟩ := trodVars_none hV
  have k0 := h0
  have lt0 : ∀ x ∈ p0, x.block < W.heap.size := by obtain ⟨m, hm⟩ := k0; exact DataW.trod_lt m _ _ _ hm
  have hk : Rows.uptoSmall H [d0] = true := by simpa using hk1
  obtain ⟨a0, rfl, rfl, rfl, _⟩ := open_string Try.underlying9 (hval 0 9 v0 rfl rfl) h0
  have w0 : a0.size ≤ 1048575 := by have := bulk_string hk (b := a0.data.toList) (by simp); simpa using this
  refine (walk a0 W w0).mono fun e W' ⟨he, bel⟩ => ?_
  subst he
  exact ⟨_, rfl, _, _, _, [], _, [], hW', trodAll_mk1 (shut_bool Try.underlying4 _), (trodAll_cons_mk (Below.trod laidOut (by kernel_rfl) (of_decide_eq_true (by kernel_rfl)) k0 bel lt0) trodAll_mk0), rfl, bel.frame _, fun h => by cases h⟩

theorem over : Rows.pressOpensUptoRow.holds Try.pinned (Rows.OpenSpec.upto Rows.pressOpensSpec) :=
  OpenClaim.holds_of_cond 6 Try.f6 rfl rfl rfl rfl rfl rfl rfl ⟨rfl, rfl, rfl, rfl, rfl⟩ rfl rfl rfl rfl rfl (by kernel_rfl) Try.func6 (by kernel_rfl)
    (of_decide_eq_true (by kernel_rfl)) (by unfold Func.isWrapper; first | (rw [if_pos (by decide +kernel)]; kernel_rfl) | (rw [if_neg (by decide +kernel)]; exact ⟨rfl, rfl⟩))
    (fun os started H enc _ F => lifted os started H enc F)

theorem proved : Rows.PressOpensUptoSaid := over
end Go.Proofs.Ytnnmiolgffcgkaa.lPressOpens
