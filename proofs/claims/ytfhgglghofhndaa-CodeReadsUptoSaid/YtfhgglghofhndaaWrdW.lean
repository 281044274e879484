/- linenref.words, walked. -/
import Derived.Test.YtfhgglghofhndaaBgnW
import Derived.Test.YtfhgglghofhndaaCwordW
namespace Go.Proofs.Ytfhgglghofhndaa
open Go.RowKit Go.PlainAid

/-- The book's words, the first k of them laid. -/
def wv (l : List Int) (k i : Nat) : List Int := if i < k then wordAt l i else []
def WRow (b : Nat) (w : World) (l : List Int) (k : Nat) : Prop := b + 1 ≤ w.heap.size ∧ ∃ cs : Array Value, w.heap[b]? = some (.cells cs 59 (0, 0)) ∧ cs.size = l.length ∧ ∀ i, i < l.length → ∃ v, cs[i]? = some v ∧ Owns w (b + 1) 1 v (wv l k i).length ((wv l k i).map (Value.int .i64))
theorem wv_succ {l : List Int} {k i : Nat} (h : i ≠ k) : wv l (k + 1) i = wv l k i := by
  unfold wv
  by_cases h2 : i < k
  · rw [if_pos h2, if_pos (by omega)]
  · rw [if_neg h2, if_neg (by omega)]
theorem wv_at (l : List Int) (k : Nat) : wv l (k + 1) k = wordAt l k := by unfold wv; rw [if_pos (by omega)]
theorem wv_none (l : List Int) (k : Nat) : wv l k k = [] := by unfold wv; rw [if_neg (by omega)]
theorem WRow.skip {b : Nat} {w : World} {l : List Int} {k : Nat} (h : WRow b w l k) (h0 : wordAt l k = []) : WRow b w l (k + 1) := by
  obtain ⟨hz, cs, h1, h2, h3⟩ := h
  refine ⟨hz, cs, h1, h2, fun i hi => ?_⟩
  by_cases e : i = k
  · subst e
    have := h3 i hi
    rw [wv_none] at this
    rw [wv_at, h0]; exact this
  · rw [wv_succ e]; exact h3 i hi
theorem WRow.next {b : Nat} {w w5 : World} {l : List Int} {k : Nat} {v : Value} (h : WRow b w l k) (hk : k < l.length) (hb : Below w.heap.size w w5) (ho : Owns w5 w.heap.size 1 v (wordAt l k).length ((wordAt l k).map (Value.int .i64))) : WRow b (w5.setCell ⟨b, k, none⟩ v) l (k + 1) := by
  obtain ⟨hz, cs, h1, h2, h3⟩ := h
  have hrow := (hb.block b (by omega)).trans h1
  have hz5 := hb.size
  refine ⟨by simp [World.setCell]; omega, cs.setIfInBounds k v, row_store hrow, by simp [h2], fun i hi => ?_⟩
  by_cases e : i = k
  · subst e
    refine ⟨v, by simp [h2, hi], ?_⟩
    rw [wv_at]
    exact (ho.more (by omega)).setOther (fun e => by have h9 := (ho.lt b e).1; omega) _
  · obtain ⟨u, hu, hou⟩ := h3 i hi
    refine ⟨u, by rw [Array.getElem?_setIfInBounds_ne (fun k => e k.symm)]; exact hu, ?_⟩
    rw [wv_succ e]
    exact (hou.fresh_below hb).setOther (fun e => Nat.not_succ_le_self b (hou.lt b e).1) _
theorem WRow.start (w : World) (l : List Int) : WRow w.heap.size (w.alloc (.cells (Array.replicate l.length (.slice none 0 0)) 59)) l 0 := by
  refine ⟨by simp, _, heap_alloc_new w _, by simp, fun i hi => ⟨.slice none 0 0, by simp [hi], ?_⟩⟩
  unfold wv; rw [if_neg (by omega)]; exact Owns.nil _ _ _
theorem WRow.cell {b : Nat} {w : World} {l : List Int} {k i : Nat} (h : WRow b w l k) (hi : i < l.length) : ∃ v, w.cell? ⟨b, i, none⟩ = some v ∧ Owns w (b + 1) 1 v (wv l k i).length ((wv l k i).map (Value.int .i64)) := by
  obtain ⟨hz, cs, h1, h2, h3⟩ := h
  obtain ⟨v, hv, ho⟩ := h3 i hi
  exact ⟨v, (row_cell h1 i).trans hv, ho⟩
theorem WRow.free {b : Nat} {w : World} {l : List Int} {k : Nat} (h : WRow b w l k) (i : Nat) : w.frozen? ⟨b, i, none⟩ = false := by
  obtain ⟨hz, cs, h1, h2, h3⟩ := h
  exact row_cold h1 i
theorem WRow.keep {b : Nat} {w w' : World} {l : List Int} {k : Nat} (h : WRow b w l k) (hb : Below w.heap.size w w') : WRow b w' l k := by
  obtain ⟨hz, cs, h1, h2, h3⟩ := h
  refine ⟨Nat.le_trans hz hb.size, cs, (hb.block b (by omega)).trans h1, h2, fun i hi => ?_⟩
  obtain ⟨v, hv, ho⟩ := h3 i hi
  exact ⟨v, hv, ho.fresh_below hb⟩
theorem info_sl : (Try.prog.info? 59).map (fun i => (i.zero, i.size, i.bytes)) = some (some (.slice none 0 0), 1, 24) := by kernel_rfl
theorem mk_sl (N : Nat) (hN : N ≤ 320) : ∀ W : World, (Instr.makeSlice 112 (.int .i64 (N : Int)) (.int .i64 (N : Int))).run Try.prog W = .ok (.slice (some ⟨W.heap.size, 0, none⟩) N N) (W.alloc (.cells (Array.replicate N (.slice none 0 0)) 59)) := fun W => by
  obtain ⟨i, hi, hzz⟩ := Option.map_eq_some_iff.1 info_sl
  simp only [Prod.mk.injEq] at hzz
  obtain ⟨hz, hs, hbb⟩ := hzz
  have := run_make (P := Try.prog) W 112 59 i (.slice none 0 0) Try.underlying112 hi hz .i64 .i64 N N (by omega) (by omega) (by rw [hbb]; omega) (by omega)
  rw [hs] at this
  rw [this, Int.toNat_natCast]
  have e : madeCells (Value.slice none 0 0).cells (N * 1) = Array.replicate N (.slice none 0 0) := by
    apply Array.ext'
    rw [Nat.mul_one, Array.toList_replicate]
    exact toList_madeCells_one _ _
  rw [e]
theorem word_zero {l : List Int} {k : Nat} (h : l[k]? = some 0) : wordAt l k = [] := by
  have := wordAt_len (l := l) (i := k) (x := 0) h
  exact List.eq_nil_of_length_eq_zero this
theorem word_eq {l : List Int} {k x : Nat} (h : l[k]? = some (x : Int)) : wordAt l k = cword (codeAt l k (l.getD k 0)) (x : Int).toNat := by
  unfold wordAt; simp [List.getD_eq_getElem?_getD, h]
def WPost (l : List Int) (w : World) (e : Ending) (w' : World) : Prop := ∃ b, e = .returned (.slice (some ⟨b, 0, none⟩) l.length l.length) ∧ w.heap.size ≤ b ∧ WRow b w' l l.length ∧ Below w.heap.size w w'

set_option maxRecDepth 20000 in
set_option maxHeartbeats 2000000 in
theorem wrd_any (A : Option Addr) (n c : Nat) (l : List Int) (w : World) (r : RowsIn w w.heap.size A n c (fun z => [.int .i64 z]) 1 l) (hcan : canE l = 0) :
    Calls Try.prog 84 #[.slice A n c] w (WPost l w) := by
  have hlen := r.len
  obtain rfl := hlen
  have hX : canX l = canL l l.length := by unfold canX; rw [if_pos hcan]
  have H := Lib.hid (canonr_any A l.length c l w r)
  rw [hcan, hX] at H
  have hl320 := can_320 hcan
  have HFA := Lib.hid (fill_all hcan)
  have HCP : Hid (∀ (i x : Nat), l[i]? = some (x : Int) → 0 < x → 0 ≤ codeAt l i x ∧ codeAt l i x < 2 ^ x) := fun i x h h0 => code_pow hcan h h0
  have hmk := Lib.hid (mk_sl l.length hl320)
  clear hcan hX
  go_enter Try.func84, Try.ntmps84
  go_wp2_with (first
    | (go_at_call 82; refine H.out.mono ?_; rintro e w1 ⟨A1, n1, c1, rfl, r1, hb1⟩; have hn1 := r1.len; rw [canL_length] at hn1; subst hn1; have hmk1 := hmk.out w1)
    | fail)
  have HST := Lib.hid (WRow.start w1 l)
  have R := Lib.hid r
  have R1 := Lib.hid r1
  have hz1 := hb1.size
  clear hmk1 r r1
  go_loopw [6, 7, 18] (fun _ _ v18 wr => ∃ i : Nat, i ≤ l.length ∧ v18 = .int .i64 i ∧ WRow w1.heap.size wr l i ∧ Below w1.heap.size w1 wr) (fun _ _ v18 _ => l.length - (intOf v18).toNat)
  case atStart => exact ⟨0, Nat.zero_le _, rfl, HST.out, (Below.refl _ _).alloc (Nat.le_refl _) _⟩
  case round =>
    obtain ⟨i, hi, rfl, hW, hb⟩ := hrel
    clear HST
    by_cases hlt : i < l.length
    · have e1 := List.getElem?_eq_getElem hlt
      obtain ⟨x, hxe⟩ : ∃ x : Nat, l[i] = (x : Int) := ⟨l[i].toNat, by have := (HFA.out _ (List.getElem_mem hlt)).1; omega⟩
      have hx15 := (HFA.out _ (List.getElem_mem hlt)).2
      rw [hxe] at e1 hx15
      obtain ⟨b1, o1, rfl, hbB1, hc1⟩ := ((R.out.below hb1).below (hb.mono hz1)).one e1
      have i1 : (i : Int) < (l.length : Int) := by omega
      by_cases h0 : x = 0
      · subst h0
        have HN := Lib.hid (hW.skip (word_zero e1))
        have HB := Lib.hid hb
        clear e1 hxe hW hb hx15
        go_wp2
        go_roundw
        case rel => exact ⟨i + 1, by omega, by go_num, HN.out, HB.out⟩
        case measure => (simp [intOf]; try omega)
      · have hx0 : 0 < x := by omega
        have hgd : l.getD i 0 = (x : Int) := by simp [List.getD_eq_getElem?_getD, e1]
        have ec := canL_get l l.length i hlt
        obtain ⟨b2, o2, rfl, hbB2, hc2⟩ := (R1.out.below hb).one ec
        have hcp := HCP.out i x e1 hx0
        have HCW := Lib.hid (word_eq e1)
        rw [hgd] at hc2 HCW
        have hpw : (2 : Int) ^ x ≤ 32768 := by
          have : (2 : Nat) ^ x ≤ 2 ^ 15 := Nat.pow_le_pow_right (by omega) (by omega)
          have h2 : ((2 ^ x : Nat) : Int) ≤ ((2 ^ 15 : Nat) : Int) := by exact_mod_cast this
          simpa using h2
        have HC := Lib.hid (cword_own (codeAt l i x) x wr hcp.1 (by omega) (by omega) (by omega))
        rw [← HCW.out] at HC
        have hWL : Hid ((wordAt l i).length = x) := wordAt_len e1
        have HW := Lib.hid hW
        have HB := Lib.hid hb
        obtain ⟨u, hcu, hou⟩ := hW.cell hlt
        have hfu := hW.free i
        have d1 := decide_eq_true (show (0 : Int) < (x : Int) by omega)
        have hlen15 : x ≤ 15 := by omega
        generalize codeAt l i x = cc at *
        clear e1 hxe hW hb hx15 hgd ec hcp hpw HCW hou
        go_wp2_with (go_at_call 103; refine HC.out.mono ?_; rintro e w5 ⟨A5, q5, c5, rfl, ho5, hb5⟩; have hcu5 := (hb5.cell (p := ⟨w1.heap.size, i, none⟩) HW.out.1).trans hcu; have hfu5 := (World.frozen?_of_block (a := ⟨w1.heap.size, i, none⟩) (hb5.block _ HW.out.1)).trans hfu)
        refine ⟨⟨i + 1, by omega, by go_num, ?_, ?_⟩, ?_⟩
        · have hq : q5 = (wordAt l i).length := by have := ho5.1; simp at this; omega
          subst hq
          exact HW.out.next hlt hb5 ho5
        · exact (HB.out.trans (hb5.mono HB.out.size)).setCell (Nat.le_refl _) _
        · simp [intOf]; omega
    · obtain rfl : i = l.length := by omega
      have i1 : ¬ (l.length : Int) < (l.length : Int) := by omega
      have HW := Lib.hid hW
      have HB := Lib.hid (hb1.trans (hb.mono hz1))
      clear hW hb
      go_wp2
      go_ret
      exact ⟨w1.heap.size, rfl, hz1, HW.out, HB.out⟩
end Go.Proofs.Ytfhgglghofhndaa
