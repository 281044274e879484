/- The statement of linenlaw.CrewOpens: the law returns true and its arguments read afterwards as before, on every schedule, for all arguments of together at most 1048576 values and letters (the second form's own bound). -/
import Derived.Test.YtebgcemglicjiaaCvJd
import Derived.Test.YtebgcemglicjiaaCvJe
import Derived.Test.YtebgcemglicjiaaPrJb
import Derived.Test.YtebgcemglicjiaaBulk
namespace Go.Proofs.Ytebgcemglicjiaa.lCrewOpens
open Go.ChangeShapes Go.WideShapes Go.ChangeAt Go.RowKit Go.Deep Go.Conc
open Go.ChangeMaps (open_string shut_string)
theorem own : ownKnob Try.prog.godebug = none := by kernel_rfl
theorem laidOut : laidOutB Try.prog = true := by kernel_rfl
theorem noInit : Try.prog.inits.idxOf? 3 = none := by kernel_rfl
section
variable {H : Type} {enc : TypeId × Value → H}
/-- Each string of the list is short. -/
theorem sizes {W : World} {a0 : Option Addr} {n0 c0 : Nat} {x0 : List ByteArray} {d0 : DataW H} {p0 : List MemPlace} {l : List (DataW H)} {fuel : Nat} (hf : DataW.trod enc Try.prog W 0 (fun _ => true) true fuel 22 [.slice a0 n0 c0] = some (d0, p0)) (hk : Rows.uptoSmall H l = true) (hd : d0 ∈ l)
    (r0 : RowsIn W W.heap.size a0 n0 c0 (fun (z : ByteArray) => [.string z]) 1 x0) : ∀ (i : Nat) (x : ByteArray), x0[i]? = some x → x.size ≤ 1048575 := by
  intro i x hx
  obtain ⟨b, o, ea, _, hc⟩ := r0.one hx
  have hi : i < n0 := by rw [← r0.len]; exact (List.getElem?_eq_some_iff.1 hx).1
  rcases open_slice1 Try.underlying22 (by kernel_rfl) hf with ⟨hcs, _⟩ | ⟨a, len, cap, m, n', V, D, Pl, hcs, hb, hl, hm, hmm, hxx, hi'⟩
  · simp only [List.cons.injEq, Value.slice.injEq, and_true] at hcs
    omega
  · simp only [List.cons.injEq, Value.slice.injEq, and_true] at hcs
    obtain ⟨e1, rfl, rfl⟩ := hcs
    rw [ea] at e1
    obtain rfl := Option.some.inj e1
    obtain ⟨h1, h2⟩ := hi' i (by rw [hmm]; simp; omega)
    obtain ⟨s, hs, hy, _⟩ := DataW.trod_string Try.underlying9 h2
    have e2 : (⟨b, o, none⟩ : Addr).add i = ⟨b, o + i, none⟩ := by unfold Addr.add; split <;> simp_all
    rw [e2, hc] at h1
    obtain rfl : x = s := by
      have e3 : V i = .string s := by simpa using hs
      rw [e3] at h1
      exact Value.string.inj (Option.some.inj h1)
    have hD : D i = .lit (.string x.data.toList) := congrArg Prod.fst hy
    have hd0 : d0 = .slice ((List.range n0).map D) ((List.range (m - n0)).map fun j => D (n0 + j)) := congrArg Prod.fst hxx
    have q1 := bulk_of hk hd
    have q2 : Rows.uptoBulk (D i) ≤ Rows.uptoBulkAll ((List.range n0).map D) := bulk_part (List.mem_map.2 ⟨i, List.mem_range.2 hi, rfl⟩)
    rw [hd0] at q1
    rw [hD] at q2
    simp only [Rows.uptoBulk, Array.length_toList] at q1 q2
    have : x.data.size = x.size := rfl
    omega
end
set_option maxRecDepth 100000 in
theorem lifted (os : Os) (started : os.Started) (H : Type) (enc : TypeId × Value → H) (F : Stop.Interp) :
    ReturnsInLeavingWide {} Try.checked os 3 .any ((Rows.OpenSpec.upto Rows.crewOpensSpec).pre6 enc Try.prog Try.f3 Rows.crewOpensUptoRow.domain false) (((Rows.OpenSpec.upto Rows.crewOpensSpec).at F).post enc Try.prog Try.f3 false true false false) := by
  refine leaving_of_cond (C := Try.checked) (s := Rows.OpenSpec.upto Rows.crewOpensSpec) (k := Rows.uptoSmall) rfl own started Try.func3
    (OpenSpec.witness (enc := enc) (C := Try.checked) (s := Rows.OpenSpec.upto Rows.crewOpensSpec) (k := Rows.uptoSmall) rfl false ⟨#[], #[.slice none 0 0, .int .i64 0], []⟩ 8 (by kernel_rfl) (by kernel_rfl) (by kernel_rfl)
      (x := ([.nil, .lit (.int .i64 0)], [], [])) (by kernel_rfl) rfl (by kernel_rfl)) ?_
  intro W base args ds gs before hval0 hW hk0
  have hk1 := hk0
  have hval : ∀ (j : Nat) t v, Try.f3.params[j]? = some t → args[j]? = some v → Value.okWide Try.prog W .any base t v := hval0
  have hW' := hW
  obtain ⟨p, q, hA0, hV, rfl, _, _⟩ := hW
  have hA : DataW.TrodAll enc Try.prog W 0 (fun _ => true) true Try.f3.params.toList args.toList ds p := hA0
  rw [Try.params3] at hA hval
  obtain ⟨v0, vs0, d0, ds0, p0, q0, hargs, rfl, rfl, h0, t0⟩ := trodAll_cons hA
  obtain ⟨v1, vs1, d1, ds1, p1, q1, rfl, rfl, rfl, h1, t1⟩ := trodAll_cons t0
  obtain ⟨rfl, rfl, rfl⟩ := trodAll_nil t1
  obtain rfl : args = #[v0, v1] := by cases args; simp_all
  obtain ⟨rfl, rfl⟩ := trodVars_none hV
  have k0 := h0
  have lt0 : ∀ x ∈ p0, x.block < W.heap.size := by obtain ⟨m, hm⟩ := k0; exact DataW.trod_lt m _ _ _ hm
  have k1 := h1
  have lt1 : ∀ x ∈ p1, x.block < W.heap.size := by obtain ⟨m, hm⟩ := k1; exact DataW.trod_lt m _ _ _ hm
  have hk : Rows.uptoSmall H [d0, d1] = true := by simpa using hk1
  obtain ⟨a0, n0, c0, rfl⟩ := okWide_slice Try.underlying22 (hval 0 22 v0 rfl rfl)
  obtain ⟨x0, r0, hsz⟩ : ∃ xs : List ByteArray, RowsIn W W.heap.size a0 n0 c0 (fun (z : ByteArray) => [.string z]) 1 xs ∧ ∀ (i : Nat) (x : ByteArray), xs[i]? = some x → x.size ≤ 1048575 := by
    obtain ⟨fuel, hf⟩ := h0
    obtain ⟨⟨xs, hr, _⟩, _⟩ := open_rows (ok := (fun (z : ByteArray) => z.size ≤ maxLen)) (k := 1) Try.underlying22 (by kernel_rfl) (by decide) (el_string Try.underlying9) hf
    exact ⟨xs, hr, sizes hf hk (by simp) hr⟩
  obtain ⟨a1, rfl, rfl, rfl, w1⟩ := open_int Try.underlying3 (hval 1 3 v1 rfl rfl) h1
  have close : ∀ (v : Value) (w' : World), FPost W v w' → ((Rows.OpenSpec.upto Rows.crewOpensSpec).at F).post enc Try.prog Try.f3 false true false false W #[.slice a0 n0 c0, .int .i64 a1] v w' := by
    rintro v w' ⟨rfl, q1, q2, q3⟩
    have bel : Below W.heap.size W { w' with tape := W.tape } := ⟨q1, rfl, q2, by
      show W.heap.size ≤ w'.heap.size
      rcases Nat.eq_zero_or_pos W.heap.size with h | h
      · omega
      · have e := q3 (W.heap.size - 1) (by omega)
        rw [Array.getElem?_eq_getElem (show W.heap.size - 1 < W.heap.size by omega)] at e
        have := (Array.getElem?_eq_some_iff.1 e).1
        omega, q3⟩
    have b0 := Below.trod laidOut (by kernel_rfl) (of_decide_eq_true (by kernel_rfl)) k0 bel lt0
    have b1 := Below.trod laidOut (by kernel_rfl) (of_decide_eq_true (by kernel_rfl)) k1 bel lt1
    have kept : ∀ may : MemPlace → Prop, W.keptBut w' may := fun may => by
      refine ⟨q1, q2, fun i hi => ?_⟩
      have e := (bel.frame may).2.2 i hi
      exact e
    exact ⟨_, _, _, [], _, [], hW', trodAll_mk1 (shut_bool Try.underlying4 _), trodAll_cons_mk (DataW.Trod.of_heap (by rfl) b0) (trodAll_cons_mk (DataW.Trod.of_heap (by rfl) b1) trodAll_mk0), rfl, kept _, fun h => by cases h⟩
  by_cases hbad : ∃ E, Refused a1 n0 E
  · obtain ⟨E, hE⟩ := hbad
    obtain ⟨M, last, o, w', t', e1, e2, e3, e4⟩ := good_of_calls (P := Try.prog) (Post := FPost W) ((law_bad (A := a0) (c := c0) W hE).mono fun e w' q => ⟨.bool true, q.1, rfl, q.2.os, q.2.output, q.2.block⟩) noInit
    exact ⟨M, last, o, w', t', e1, e2, e3, e4.mono fun v q => close v _ q⟩
  · have g1 : 1 ≤ a1 := Classical.byContradiction fun h => hbad ⟨1, .inl ⟨by omega, rfl⟩⟩
    have g8 : a1 ≤ 8 := Classical.byContradiction fun h => hbad ⟨1, .inr (.inl ⟨g1, by omega, rfl⟩)⟩
    have g16 : n0 ≤ 16 := Classical.byContradiction fun h => hbad ⟨2, .inr (.inr ⟨g1, g8, by omega, rfl⟩)⟩
    obtain ⟨k, rfl⟩ : ∃ k : Nat, a1 = k := ⟨a1.toNat, by omega⟩
    have hx : ∀ i, i < n0 → x0[i]? = some (x0.getD i ByteArray.empty) := fun i hi => by
      have hl : i < x0.length := by rw [r0.len]; exact hi
      rw [List.getD_eq_getElem?_getD, List.getElem?_eq_getElem hl]; rfl
    obtain ⟨M, last, o, w', t', e1, e2, e3, e4⟩ := crew_good (a0 := a0) (n := n0) (c0 := c0) (h := k) (ts := fun i => x0.getD i ByteArray.empty) (tx := fun i => (opnR (x0.getD i ByteArray.empty)).1) (er := fun i => (opnR (x0.getD i ByteArray.empty)).2) (W := W) (by omega) (by omega) g16
      (fun i hi => by
        obtain ⟨b, o, q1, q2, q3⟩ := r0.one (hx i hi)
        exact ⟨b, o, q1, q2, q3⟩)
      (fun i hi w => (popen_any _ w (hsz i _ (hx i hi))).mono fun e w' q => q.1)
      (fun i hi w => (ropen_any _ w (hsz i _ (hx i hi))).mono fun e w' q => q.1)
    exact ⟨M, last, o, w', t', e1, e2, e3, e4.mono fun v q => close v _ q⟩

theorem over : Rows.crewOpensUptoRow.holds Try.pinned (Rows.OpenSpec.upto Rows.crewOpensSpec) :=
  holds_cond_leaving 3 Try.f3 ⟨rfl, rfl, rfl⟩ rfl rfl ⟨rfl, rfl, rfl, rfl, rfl, rfl, rfl⟩ rfl rfl rfl rfl rfl (by kernel_rfl) Try.func3 (by kernel_rfl)
    (of_decide_eq_true (by kernel_rfl)) (by unfold Func.isWrapper; first | (rw [if_pos (by decide +kernel)]; kernel_rfl) | (rw [if_neg (by decide +kernel)]; exact ⟨rfl, rfl⟩))
    (fun os started H enc F => lifted os started H enc F)

theorem proved : Rows.CrewOpensUptoSaid := over
end Go.Proofs.Ytebgcemglicjiaa.lCrewOpens
