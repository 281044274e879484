/- linenref.sign, walked (printed by gen_sgn.py). -/
import Derived.Test.YtebgcemglicjiaaPlJb
import Derived.Test.YtebgcemglicjiaaFillW
import Derived.Test.YtebgcemglicjiaaCanonR
import Derived.Test.YtebgcemglicjiaaOnJa
import Derived.Test.YtebgcemglicjiaaOwJa
/- linenref.Codeword, walked. -/
namespace Go.Proofs.Ytebgcemglicjiaa
open Go.RowKit

theorem cword_succ (c : Int) (k : Nat) : cword c (k + 1) = (c / 2 ^ k % 2) :: cword c k := rfl

set_option maxRecDepth 20000 in
set_option maxHeartbeats 400000 in
theorem cword_own (c x : Int) (w : World) (hc0 : 0 ≤ c) (hc1 : c ≤ 32768 * 320) (hx0 : 0 ≤ x) (hx1 : x ≤ 15) :
    Calls Try.prog 59 #[.int .i64 c, .int .i64 x] w fun e w' => ∃ A q d, e = .returned (.slice A q d) ∧ Owns w' w.heap.size 1 (.slice A q d) q ((cword c x.toNat).map (Value.int .i64)) ∧ Below w.heap.size w w' := by
  obtain ⟨n, rfl⟩ := Int.eq_ofNat_of_zero_le hx0
  rw [Int.toNat_natCast]
  go_enter Try.func59, Try.ntmps59
  go_wp2
  go_loopw [5, 6] (fun v5 v6 wr => ∃ (i : Int) (O : List Int), -1 ≤ i ∧ i < n ∧ Hid (O ++ cword c (i + 1).toNat = cword c n) ∧ (O.length : Int) ≤ n - (i + 1) ∧ v6 = .int .i64 i ∧ Owns wr w.heap.size 1 v5 O.length (O.map (Value.int .i64)) ∧ Below w.heap.size w wr) (fun _ v6 _ => (intOf v6 + 1).toNat)
  case atStart => exact ⟨(n : Int) - 1, [], by omega, by omega, by simp only [Hid]; rw [show ((n : Int) - 1 + 1).toNat = n by omega]; rfl, by simp, by go_num, Owns.nil _ _ _, Below.refl _ _⟩
  case round =>
    obtain ⟨i, O, hi0, hi1, hO, hOl, rfl, hown, hb⟩ := hrel
    obtain ⟨A, d, rfl⟩ := hown.form
    have hsz := hb.size
    by_cases hi : 0 ≤ i
    · obtain ⟨k, rfl⟩ : ∃ k : Nat, i = k := ⟨i.toNat, by omega⟩
      have hk : k ≤ 14 := by omega
      have hp0 : (0 : Int) < 2 ^ k := Int.pow_pos (by decide)
      have hp1 : (2 : Int) ^ k ≤ 16384 := by
        have : (2 : Nat) ^ k ≤ 2 ^ 14 := Nat.pow_le_pow_right (by omega) hk
        have h2 : ((2 ^ k : Nat) : Int) ≤ ((2 ^ 14 : Nat) : Int) := by exact_mod_cast this
        simpa using h2
      have HX : Hid ((O ++ [c / 2 ^ k % 2]) ++ cword c k = cword c n) := by
        have := hO.out
        rw [show ((k : Int) + 1).toNat = k + 1 by omega, cword_succ] at this
        simpa [Hid] using this
      have hP := Lib.hid (pow2_any k wr (by omega) (by omega))
      rw [Int.toNat_natCast] at hP
      have hq0 : 0 ≤ c / 2 ^ k := Int.ediv_nonneg hc0 (by omega)
      have hq1 : c / 2 ^ k ≤ c := Int.ediv_le_self _ hc0
      have ht : c.tdiv (2 ^ k) = c / 2 ^ k := Int.tdiv_eq_ediv_of_nonneg hc0
      generalize hpe : (2 : Int) ^ k = p at *
      have hn : (p == 0) = false := by rw [beq_eq_false_iff_ne]; omega
      have hpn : p ≠ 0 := by omega
      generalize hqe : c / p = q at *
      have hqw : wrap64 q = q := by unfold wrap64; omega
      clear hqe hpe
      go_wp2_with (first | (go_at_call 26; refine hP.out.mono ?_; rintro e w' ⟨rfl, rfl⟩) | (at_builtin; refine wpList_add1 rfl rfl Try.underlying63 info_i64c rfl (Nat.le_refl 1) hown rfl hsz rfl rfl rfl ?_ ?_ ?_ ?_; simp [Value.oneCell']; (unfold maxLen; omega); omega; intro A3 c3 w3 hown3 hl3 hbk3))
      go_roundw
      case rel => exact ⟨(k : Int) - 1, O ++ [q % 2], by omega, by omega, by simp only [Hid]; rw [show ((k : Int) - 1 + 1).toNat = k by omega]; exact HX.out, by simp; omega, by go_num, by simpa using hown3, hl3.below (Nat.le_refl _) hb⟩
      case measure => (simp [intOf]; try omega)
    · have hOe : O = cword c n := by
        have := hO.out
        rw [show (i + 1).toNat = 0 by omega] at this
        simpa [cword] using this
      have F := Lib.hid hOe
      clear hOe
      go_wp2
      go_ret
      exact ⟨A, O.length, d, rfl, by rw [← F.out]; exact hown, hb⟩
theorem cword_any (c x : Int) (w : World) (hc0 : 0 ≤ c) (hc1 : c ≤ 32768 * 320) (hx0 : 0 ≤ x) (hx1 : x ≤ 15) :
    Calls Try.prog 59 #[.int .i64 c, .int .i64 x] w fun e w' => ∃ A q d, e = .returned (.slice A q d) ∧ RowsIn w' w'.heap.size A q d (fun z => [.int .i64 z]) 1 (cword c x.toNat) ∧ Below w.heap.size w w' :=
  (cword_own c x w hc0 hc1 hx0 hx1).mono fun _ _ ⟨A, q, d, he, ho, hb⟩ => ⟨A, q, d, he, own_intsC ho, hb⟩
end Go.Proofs.Ytebgcemglicjiaa

/- linenref.words, walked. -/
namespace Go.Proofs.Ytebgcemglicjiaa
open Go.RowKit Go.PlainAid

/-- The book's words, the first k of them laid. -/
def wv (l : List Int) (k i : Nat) : List Int := if i < k then wordAt l i else []
def WRow (b : Nat) (w : World) (l : List Int) (k : Nat) : Prop := b + 1 ≤ w.heap.size ∧ ∃ cs : Array Value, w.heap[b]? = some (.cells cs 63 (0, 0)) ∧ cs.size = l.length ∧ ∀ i, i < l.length → ∃ v, cs[i]? = some v ∧ Owns w (b + 1) 1 v (wv l k i).length ((wv l k i).map (Value.int .i64))
theorem wv_succ {l : List Int} {k i : Nat} (h : i ≠ k) : wv l (k + 1) i = wv l k i := by
  unfold wv
  by_cases h2 : i < k
  · rw [if_pos h2, if_pos (by omega)]
  · rw [if_neg h2, if_neg (by omega)]
theorem wv_at (l : List Int) (k : Nat) : wv l (k + 1) k = wordAt l k := by unfold wv; rw [if_pos (by omega)]
theorem wv_none (l : List Int) (k : Nat) : wv l k k = [] := by unfold wv; rw [if_neg (by omega)]
theorem WRow.skip {b : Nat} {w : World} {l : List Int} {k : Nat} (h : WRow b w l k) (h0 : wordAt l k = []) : WRow b w l (k + 1) := by
  obtain ⟨hz, cs, h1, h2, h3⟩ := h
  refine ⟨hz, cs, h1, h2, fun i hi => ?_⟩
  by_cases e : i = k
  · subst e
    have := h3 i hi
    rw [wv_none] at this
    rw [wv_at, h0]; exact this
  · rw [wv_succ e]; exact h3 i hi
theorem WRow.next {b : Nat} {w w5 : World} {l : List Int} {k : Nat} {v : Value} (h : WRow b w l k) (hk : k < l.length) (hb : Below w.heap.size w w5) (ho : Owns w5 w.heap.size 1 v (wordAt l k).length ((wordAt l k).map (Value.int .i64))) : WRow b (w5.setCell ⟨b, k, none⟩ v) l (k + 1) := by
  obtain ⟨hz, cs, h1, h2, h3⟩ := h
  have hrow := (hb.block b (by omega)).trans h1
  have hz5 := hb.size
  refine ⟨by simp [World.setCell]; omega, cs.setIfInBounds k v, row_store hrow, by simp [h2], fun i hi => ?_⟩
  by_cases e : i = k
  · subst e
    refine ⟨v, by simp [h2, hi], ?_⟩
    rw [wv_at]
    exact (ho.more (by omega)).setOther (fun e => by have h9 := (ho.lt b e).1; omega) _
  · obtain ⟨u, hu, hou⟩ := h3 i hi
    refine ⟨u, by rw [Array.getElem?_setIfInBounds_ne (fun k => e k.symm)]; exact hu, ?_⟩
    rw [wv_succ e]
    exact (hou.fresh_below hb).setOther (fun e => Nat.not_succ_le_self b (hou.lt b e).1) _
theorem WRow.start (w : World) (l : List Int) : WRow w.heap.size (w.alloc (.cells (Array.replicate l.length (.slice none 0 0)) 63)) l 0 := by
  refine ⟨by simp, _, heap_alloc_new w _, by simp, fun i hi => ⟨.slice none 0 0, by simp [hi], ?_⟩⟩
  unfold wv; rw [if_neg (by omega)]; exact Owns.nil _ _ _
theorem WRow.cell {b : Nat} {w : World} {l : List Int} {k i : Nat} (h : WRow b w l k) (hi : i < l.length) : ∃ v, w.cell? ⟨b, i, none⟩ = some v ∧ Owns w (b + 1) 1 v (wv l k i).length ((wv l k i).map (Value.int .i64)) := by
  obtain ⟨hz, cs, h1, h2, h3⟩ := h
  obtain ⟨v, hv, ho⟩ := h3 i hi
  exact ⟨v, (row_cell h1 i).trans hv, ho⟩
theorem WRow.free {b : Nat} {w : World} {l : List Int} {k : Nat} (h : WRow b w l k) (i : Nat) : w.frozen? ⟨b, i, none⟩ = false := by
  obtain ⟨hz, cs, h1, h2, h3⟩ := h
  exact row_cold h1 i
theorem WRow.keep {b : Nat} {w w' : World} {l : List Int} {k : Nat} (h : WRow b w l k) (hb : Below w.heap.size w w') : WRow b w' l k := by
  obtain ⟨hz, cs, h1, h2, h3⟩ := h
  refine ⟨Nat.le_trans hz hb.size, cs, (hb.block b (by omega)).trans h1, h2, fun i hi => ?_⟩
  obtain ⟨v, hv, ho⟩ := h3 i hi
  exact ⟨v, hv, ho.fresh_below hb⟩
theorem info_sl : (Try.prog.info? 63).map (fun i => (i.zero, i.size, i.bytes)) = some (some (.slice none 0 0), 1, 24) := by kernel_rfl
theorem mk_sl (N : Nat) (hN : N ≤ 320) : ∀ W : World, (Instr.makeSlice 61 (.int .i64 (N : Int)) (.int .i64 (N : Int))).run Try.prog W = .ok (.slice (some ⟨W.heap.size, 0, none⟩) N N) (W.alloc (.cells (Array.replicate N (.slice none 0 0)) 63)) := fun W => by
  obtain ⟨i, hi, hzz⟩ := Option.map_eq_some_iff.1 info_sl
  simp only [Prod.mk.injEq] at hzz
  obtain ⟨hz, hs, hbb⟩ := hzz
  have := run_make (P := Try.prog) W 61 63 i (.slice none 0 0) Try.underlying61 hi hz .i64 .i64 N N (by omega) (by omega) (by rw [hbb]; omega) (by omega)
  rw [hs] at this
  rw [this, Int.toNat_natCast]
  have e : madeCells (Value.slice none 0 0).cells (N * 1) = Array.replicate N (.slice none 0 0) := by
    apply Array.ext'
    rw [Nat.mul_one, Array.toList_replicate]
    exact toList_madeCells_one _ _
  rw [e]
theorem word_zero {l : List Int} {k : Nat} (h : l[k]? = some 0) : wordAt l k = [] := by
  have := wordAt_len (l := l) (i := k) (x := 0) h
  exact List.eq_nil_of_length_eq_zero this
theorem word_eq {l : List Int} {k x : Nat} (h : l[k]? = some (x : Int)) : wordAt l k = cword (codeAt l k (l.getD k 0)) (x : Int).toNat := by
  unfold wordAt; simp [List.getD_eq_getElem?_getD, h]
def WPost (l : List Int) (w : World) (e : Ending) (w' : World) : Prop := ∃ b, e = .returned (.slice (some ⟨b, 0, none⟩) l.length l.length) ∧ w.heap.size ≤ b ∧ WRow b w' l l.length ∧ Below w.heap.size w w'

set_option maxRecDepth 20000 in
set_option maxHeartbeats 2000000 in
theorem wrd_any (A : Option Addr) (n c : Nat) (l : List Int) (w : World) (r : RowsIn w w.heap.size A n c (fun z => [.int .i64 z]) 1 l) (hcan : canE l = 0) :
    Calls Try.prog 23 #[.slice A n c] w (WPost l w) := by
  have hlen := r.len
  obtain rfl := hlen
  have hX : canX l = canL l l.length := by unfold canX; rw [if_pos hcan]
  have H := Lib.hid (canonr_any A l.length c l w r)
  rw [hcan, hX] at H
  have hl320 := can_320 hcan
  have HFA := Lib.hid (fill_all hcan)
  have HCP : Hid (∀ (i x : Nat), l[i]? = some (x : Int) → 0 < x → 0 ≤ codeAt l i x ∧ codeAt l i x < 2 ^ x) := fun i x h h0 => code_pow hcan h h0
  have hmk := Lib.hid (mk_sl l.length hl320)
  clear hcan hX
  go_enter Try.func23, Try.ntmps23
  go_wp2_with (first
    | (go_at_call 22; refine H.out.mono ?_; rintro e w1 ⟨A1, n1, c1, rfl, r1, hb1⟩; have hn1 := r1.len; rw [canL_length] at hn1; subst hn1; have hmk1 := hmk.out w1)
    | fail)
  have HST := Lib.hid (WRow.start w1 l)
  have R := Lib.hid r
  have R1 := Lib.hid r1
  have hz1 := hb1.size
  clear hmk1 r r1
  go_loopw [6, 7, 18] (fun _ _ v18 wr => ∃ i : Nat, i ≤ l.length ∧ v18 = .int .i64 i ∧ WRow w1.heap.size wr l i ∧ Below w1.heap.size w1 wr) (fun _ _ v18 _ => l.length - (intOf v18).toNat)
  case atStart => exact ⟨0, Nat.zero_le _, rfl, HST.out, (Below.refl _ _).alloc (Nat.le_refl _) _⟩
  case round =>
    obtain ⟨i, hi, rfl, hW, hb⟩ := hrel
    clear HST
    by_cases hlt : i < l.length
    · have e1 := List.getElem?_eq_getElem hlt
      obtain ⟨x, hxe⟩ : ∃ x : Nat, l[i] = (x : Int) := ⟨l[i].toNat, by have := (HFA.out _ (List.getElem_mem hlt)).1; omega⟩
      have hx15 := (HFA.out _ (List.getElem_mem hlt)).2
      rw [hxe] at e1 hx15
      obtain ⟨b1, o1, rfl, hbB1, hc1⟩ := ((R.out.below hb1).below (hb.mono hz1)).one e1
      have i1 : (i : Int) < (l.length : Int) := by omega
      by_cases h0 : x = 0
      · subst h0
        have HN := Lib.hid (hW.skip (word_zero e1))
        have HB := Lib.hid hb
        clear e1 hxe hW hb hx15
        go_wp2
        go_roundw
        case rel => exact ⟨i + 1, by omega, by go_num, HN.out, HB.out⟩
        case measure => (simp [intOf]; try omega)
      · have hx0 : 0 < x := by omega
        have hgd : l.getD i 0 = (x : Int) := by simp [List.getD_eq_getElem?_getD, e1]
        have ec := canL_get l l.length i hlt
        obtain ⟨b2, o2, rfl, hbB2, hc2⟩ := (R1.out.below hb).one ec
        have hcp := HCP.out i x e1 hx0
        have HCW := Lib.hid (word_eq e1)
        rw [hgd] at hc2 HCW
        have hpw : (2 : Int) ^ x ≤ 32768 := by
          have : (2 : Nat) ^ x ≤ 2 ^ 15 := Nat.pow_le_pow_right (by omega) (by omega)
          have h2 : ((2 ^ x : Nat) : Int) ≤ ((2 ^ 15 : Nat) : Int) := by exact_mod_cast this
          simpa using h2
        have HC := Lib.hid (cword_own (codeAt l i x) x wr hcp.1 (by omega) (by omega) (by omega))
        rw [← HCW.out] at HC
        have hWL : Hid ((wordAt l i).length = x) := wordAt_len e1
        have HW := Lib.hid hW
        have HB := Lib.hid hb
        obtain ⟨u, hcu, hou⟩ := hW.cell hlt
        have hfu := hW.free i
        have d1 := decide_eq_true (show (0 : Int) < (x : Int) by omega)
        have hlen15 : x ≤ 15 := by omega
        generalize codeAt l i x = cc at *
        clear e1 hxe hW hb hx15 hgd ec hcp hpw HCW hou
        go_wp2_with (go_at_call 59; refine HC.out.mono ?_; rintro e w5 ⟨A5, q5, c5, rfl, ho5, hb5⟩; have hcu5 := (hb5.cell (p := ⟨w1.heap.size, i, none⟩) HW.out.1).trans hcu; have hfu5 := (World.frozen?_of_block (a := ⟨w1.heap.size, i, none⟩) (hb5.block _ HW.out.1)).trans hfu)
        refine ⟨⟨i + 1, by omega, by go_num, ?_, ?_⟩, ?_⟩
        · have hq : q5 = (wordAt l i).length := by have := ho5.1; simp at this; omega
          subst hq
          exact HW.out.next hlt hb5 ho5
        · exact (HB.out.trans (hb5.mono HB.out.size)).setCell (Nat.le_refl _) _
        · simp [intOf]; omega
    · obtain rfl : i = l.length := by omega
      have i1 : ¬ (l.length : Int) < (l.length : Int) := by omega
      have HW := Lib.hid hW
      have HB := Lib.hid (hb1.trans (hb.mono hz1))
      clear hW hb
      go_wp2
      go_ret
      exact ⟨w1.heap.size, rfl, hz1, HW.out, HB.out⟩
end Go.Proofs.Ytebgcemglicjiaa

namespace Go.Proofs.Ytebgcemglicjiaa
open Go.RowKit Go.PlainAid

def HitJ (l : List Int) (s : ByteArray) (a k j : Nat) : Prop := 0 < k ∧ l[j]? = some (k : Int) ∧ codeAt l j k = cN s a k
def MorJ (l : List Int) (s : ByteArray) (a k j : Nat) : Prop := ∃ x : Nat, l[j]? = some (x : Int) ∧ k < x ∧ codeAt l j x / 2 ^ (x - k) = cN s a k
theorem hit_J {l : List Int} {s : ByteArray} {a k : Nat} : Hit l (cN s a k) k ↔ ∃ j, HitJ l s a k j := by
  constructor
  · intro h
    obtain ⟨i, h1, h2⟩ := (hit_iff h.1).1 h
    exact ⟨i, by have := h.1; omega, h1, h2⟩
  · rintro ⟨i, h0, h1, h2⟩
    exact (hit_iff (by omega)).2 ⟨i, h1, h2⟩
theorem mor_J {l : List Int} {s : ByteArray} {a k : Nat} (h : canE l = 0) : Mor l (cN s a k) k ↔ ∃ j, MorJ l s a k j := by
  rw [mor_iff (fill_all h)]
  constructor
  · rintro ⟨i, x, h1, h2, h3⟩; exact ⟨i, x, h1, h2, h3⟩
  · rintro ⟨i, x, h1, h2, h3⟩; exact ⟨i, x, h1, h2, h3⟩
theorem bgn_hit {l : List Int} (h : canE l = 0) {s : ByteArray} {a k j : Nat} (hi : l[j]? = some (k : Int)) (h0 : 0 < k) (hf : a + k ≤ 8 * s.size) : Bgn ((tbL s).drop a) (wordAt l j) ↔ HitJ l s a k j := by
  have hw := wordAt_len hi
  have hb := begins_hit h (s := s) (a := a) (n := k) hi h0 rfl hf
  unfold Bgn HitJ
  rw [hw]
  have hl : k ≤ ((tbL s).drop a).length := by rw [List.length_drop, tbL_length]; omega
  exact ⟨fun k => ⟨h0, hi, hb.1 k.1.symm⟩, fun k => ⟨(hb.2 k.2.2).symm, hl⟩⟩
theorem bgn_mor {l : List Int} (h : canE l = 0) {s : ByteArray} {a k x j : Nat} (hi : l[j]? = some (x : Int)) (h0 : k < x) (hf : a + k ≤ 8 * s.size) : Bgn (wordAt l j) (((tbL s).drop a).take k) ↔ MorJ l s a k j := by
  have hw := wordAt_len hi
  have hb := begins_mor h (s := s) (a := a) (n := k) hi h0 hf
  have hl : (((tbL s).drop a).take k).length = k := by rw [List.length_take, List.length_drop, tbL_length]; omega
  unfold Bgn MorJ
  rw [hl, hw]
  constructor
  · rintro ⟨h1, _⟩; exact ⟨x, hi, h0, hb.1 h1⟩
  · rintro ⟨y, h1, h2, h3⟩
    rw [hi] at h1
    have e : x = y := by injection h1 with h1; omega
    subst e
    exact ⟨hb.2 h3, by omega⟩
theorem mor_at {l : List Int} {s : ByteArray} {a k x j : Nat} (hi : l[j]? = some (x : Int)) (h0 : ¬ k < x) : ¬ MorJ l s a k j := by
  rintro ⟨y, h1, h2, h3⟩
  rw [hi] at h1
  have e : x = y := by injection h1 with h1; omega
  omega
theorem hit_at {l : List Int} {s : ByteArray} {a k x j : Nat} (hi : l[j]? = some (x : Int)) (h0 : ¬ (x = k ∧ 0 < k)) : ¬ HitJ l s a k j := by
  rintro ⟨h1, h2, h3⟩
  rw [hi] at h2
  have e : x = k := by injection h2 with h2; omega
  exact h0 ⟨e, h1⟩
theorem WRow.word {b : Nat} {w : World} {l : List Int} (h : WRow b w l l.length) {j x : Nat} (hi : l[j]? = some (x : Int)) : ∃ A c, w.cell? ⟨b, j, none⟩ = some (.slice A x c) ∧ RowsIn w w.heap.size A x c (fun z => [.int .i64 z]) 1 (wordAt l j) := by
  have hj := (List.getElem?_eq_some_iff.1 hi).1
  obtain ⟨v, hc, ho⟩ := h.cell hj
  have e : wv l l.length j = wordAt l j := by unfold wv; rw [if_pos hj]
  rw [e, wordAt_len hi] at ho
  obtain ⟨A, c, rfl⟩ := ho.form
  exact ⟨A, c, hc, own_intsC ho⟩
/-- The inner loop's facts: none of the first i is the sign; whether one of them begins with these bits. -/
def SnI (l : List Int) (s : ByteArray) (a k i : Nat) (b : Bool) : Prop := (∀ j, j < i → ¬ HitJ l s a k j) ∧ (b = true ↔ ∃ j, j < i ∧ MorJ l s a k j)
theorem SnI.start (l : List Int) (s : ByteArray) (a k : Nat) : SnI l s a k 0 false := ⟨fun j h => by omega, by simp⟩
theorem SnI.next {l : List Int} {s : ByteArray} {a k i : Nat} {b : Bool} (h : SnI l s a k i b) (h1 : ¬ HitJ l s a k i) (b' : Bool) (h2 : b' = true ↔ b = true ∨ MorJ l s a k i) : SnI l s a k (i + 1) b' := by
  refine ⟨fun j hj => ?_, h2.trans ?_⟩
  · by_cases e : j = i
    · subst e; exact h1
    · exact h.1 j (by omega)
  · rw [h.2]
    constructor
    · rintro (⟨j, h3, h4⟩ | h3)
      · exact ⟨j, by omega, h4⟩
      · exact ⟨i, by omega, h3⟩
    · rintro ⟨j, h3, h4⟩
      by_cases e : j = i
      · subst e; exact .inr h4
      · exact .inl ⟨j, by omega, h4⟩
theorem SnI.done {l : List Int} {s : ByteArray} {a k : Nat} {b : Bool} (hc : canE l = 0) (h : SnI l s a k l.length b) : ¬ Hit l (cN s a k) k ∧ (b = true ↔ Mor l (cN s a k) k) := by
  refine ⟨fun hh => ?_, h.2.trans ?_⟩
  · obtain ⟨j, hj⟩ := hit_J.1 hh
    exact h.1 j (List.getElem?_eq_some_iff.1 hj.2.1).1 hj
  · rw [mor_J hc]
    constructor
    · rintro ⟨j, _, h4⟩; exact ⟨j, h4⟩
    · rintro ⟨j, h4⟩
      obtain ⟨x, h5, h6⟩ := h4
      exact ⟨j, (List.getElem?_eq_some_iff.1 h5).1, x, h5, h6⟩
def SgPost (l : List Int) (s : ByteArray) (a : Nat) (w : World) (e : Ending) (w' : World) : Prop := (∃ q, w' = w.drewN q) ∧ ((∃ x k : Nat, e = .returned (.tuple #[.int .i64 x, .int .i64 k, .int .i64 0]) ∧ one l s a = ((x : Int), ((a + k : Nat) : Int), 0)) ∨ ∃ z : Int, z ≠ 0 ∧ e = .returned (.tuple #[.int .i64 0, .int .i64 0, .int .i64 z]) ∧ one l s a = (0, 0, z))

set_option maxRecDepth 20000 in
set_option maxHeartbeats 2000000 in
theorem sg_any (l : List Int) (s : ByteArray) (a bw : Nat) (AB : Option Addr) (cB M : Nat) (w : World) (hW : WRow bw w l l.length) (rB : RowsIn w w.heap.size AB M cB (fun z => [.int .i64 z]) 1 ((tbL s).drop a)) (hcan : canE l = 0) (ha : a ≤ 8 * s.size) :
    Calls Try.prog 25 #[.slice (some ⟨bw, 0, none⟩) l.length l.length, .slice AB M cB] w (SgPost l s a w) := by
  have hM : M = 8 * s.size - a := by have := rB.len; rw [List.length_drop, tbL_length] at this; omega
  have hMc := rB.le
  have hl320 := can_320 hcan
  have HC := Lib.hid hcan
  have HFA := Lib.hid (fill_all hcan)
  have HWR := Lib.hid hW
  have HRB := Lib.hid rB
  have HM := Lib.hid hM
  clear hcan hW rB hM
  go_enter Try.func25, Try.ntmps25
  go_wp2
  go_loopw [7, 8, 9, 10, 15] (fun v7 _ _ _ _ wr => ∃ k q : Nat, k ≤ 15 ∧ a + k ≤ 8 * s.size ∧ v7 = .int .i64 k ∧ Hid (wr = w.drewN q) ∧ Hid (one l s a = oneR l s a (16 - k) k)) (fun v7 _ _ _ _ _ => 16 - (intOf v7).toNat)
  case atStart => exact ⟨0, 0, by omega, by omega, rfl, rfl, rfl⟩
  case round =>
    obtain ⟨k, q0, hk, hak, rfl, HW0, HN⟩ := hrel
    obtain ⟨f, hf⟩ : ∃ f, 16 - k = f + 1 := ⟨15 - k, by omega⟩
    rw [hf] at HN
    have HF := Lib.hid hf
    clear hf
    have hkM : k ≤ M := by have := HM.out; omega
    have hkc : k ≤ cB := by omega
    obtain ⟨wo, rfl⟩ : ∃ wo : World, wo = wr := ⟨_, rfl⟩
    go_wp2
    go_loopw [8, 9, 10, 15] (fun v8 _ _ v15 wi => ∃ (i q : Nat) (b : Bool), i ≤ l.length ∧ v15 = .int .i64 i ∧ v8 = .bool b ∧ Hid (wi = w.drewN q) ∧ Hid (SnI l s a k i b)) (fun _ _ _ v15 _ => l.length - (intOf v15).toNat)
    case atStart => exact ⟨0, q0, false, Nat.zero_le _, rfl, rfl, HW0.out, SnI.start _ _ _ _⟩
    case round =>
      obtain ⟨i, q, b, hi, rfl, rfl, HW, HI⟩ := hrel
      by_cases hlt : i < l.length
      · have e1 := List.getElem?_eq_getElem hlt
        obtain ⟨x, hxe⟩ : ∃ x : Nat, l[i] = (x : Int) := ⟨l[i].toNat, by have := (HFA.out _ (List.getElem_mem hlt)).1; omega⟩
        have hx15 := (HFA.out _ (List.getElem_mem hlt)).2
        rw [hxe] at e1 hx15
        have i1 := decide_eq_true (show (i : Int) < (l.length : Int) by omega)
        obtain ⟨Aj, cj, hcell, rj⟩ := HWR.out.word e1
        have hcell2 : wr.cell? ⟨bw, i, none⟩ = some (.slice Aj x cj) := by rw [HW.out]; exact hcell
        have HRJ : Hid (RowsIn wr w.heap.size Aj x cj (fun z => [.int .i64 z]) 1 (wordAt l i)) := rj.keep (w' := wr) (fun p _ => by rw [HW.out]; rfl)
        have HRB2 : Hid (RowsIn wr w.heap.size AB M cB (fun z => [.int .i64 z]) 1 ((tbL s).drop a)) := HRB.out.keep (w' := wr) (fun p _ => by rw [HW.out]; rfl)
        have HE1 := Lib.hid e1
        clear e1 hxe hcell rj
        by_cases hxk : x = k ∧ 0 < k
        · obtain ⟨rfl, hx0⟩ := hxk
          have HB1 := Lib.hid (bgn_any _ _ AB M cB _ Aj x cj _ wr HRB2.out HRJ.out)
          have HH := Lib.hid (bgn_hit HC.out HE1.out hx0 hak)
          have HMN := Lib.hid (mor_at (s := s) (a := a) HE1.out (Nat.lt_irrefl x))
          have g1 := decide_eq_true hx0
          have g2 := decide_eq_false (Nat.lt_irrefl x)
          have g3 := decide_eq_false (Int.lt_irrefl (x : Int))
          have g4 := decide_eq_true (show (0 : Int) < (x : Int) by omega)
          clear HRJ HRB2
          by_cases hh : HitJ l s a x i
          · have F : Hid (one l s a = ((i : Int), ((a + x : Nat) : Int), 0)) := by
              simp only [Hid]; rw [HN.out, oneR_hit (hit_J.2 ⟨i, hh⟩), sgn_eq (by omega) hh.2.1 hh.2.2]
            have HHH := Lib.hid hh
            clear hh
            go_wp2_with (go_at_call 60; refine HB1.out.mono ?_; rintro e w' ⟨bb, q2, rfl, hb, rfl⟩; obtain rfl : bb = true := hb.2 (HH.out.2 HHH.out); clear hb)
            go_ret3
            exact ⟨⟨q + q2, by rw [HW.out, World.drewN_drewN]⟩, .inl ⟨i, x, rfl, F.out⟩⟩
          · have F : Hid (SnI l s a x (i + 1) b) := HI.out.next hh b (by simp [HMN.out])
            have HHH := Lib.hid hh
            clear hh
            rcases b with _ | _
            all_goals
              go_wp2_with (go_at_call 60; refine HB1.out.mono ?_; rintro e w' ⟨bb, q2, rfl, hb, rfl⟩; obtain rfl : bb = false := one_no (hb.trans HH.out) HHH.out; clear hb)
              go_roundw
              case rel => exact ⟨i + 1, q + q2, _, by omega, by go_num, rfl, by simp only [Hid]; rw [HW.out, World.drewN_drewN], F.out⟩
              case measure => (simp [intOf]; try omega)
        · have HHN := Lib.hid (hit_at (s := s) (a := a) HE1.out hxk)
          have hz : (x = 0) ∨ (0 < x ∧ x ≠ k) := by omega
          rcases b with _ | _
          · by_cases hkx : k < x
            · have HPRE : Hid (RowsIn wr w.heap.size AB k cB (fun z => [.int .i64 z]) 1 (((tbL s).drop a).take k)) := HRB2.out.pre hkM
              have HB1 := Lib.hid (bgn_any _ _ Aj x cj _ AB k cB _ wr HRJ.out HPRE.out)
              have HH := Lib.hid (bgn_mor HC.out HE1.out hkx hak)
              have g1 := decide_eq_true (show 0 < x by omega)
              have g4 := decide_eq_true (show (0 : Int) < (x : Int) by omega)
              have g2 := decide_eq_true hkx
              have g3 := decide_eq_true (show (k : Int) < (x : Int) by omega)
              have g5 : ((x : Int) == (k : Int)) = false := beq_eq_false_iff_ne.2 (by omega)
              have g6 : (x == k) = false := beq_eq_false_iff_ne.2 (by omega)
              have g7 : (k : Int) ≤ (M : Int) := by omega
              have g8 : (k : Int) ≤ (cB : Int) := by omega
              clear HRJ HRB2 hxk hz
              by_cases hh : MorJ l s a k i
              · have F : Hid (SnI l s a k (i + 1) true) := HI.out.next HHN.out true (by simp [hh])
                have HHH := Lib.hid hh
                clear hh
                go_wp2_with (go_at_call 60; refine HB1.out.mono ?_; rintro e w' ⟨bb, q2, rfl, hb, rfl⟩; obtain rfl : bb = true := hb.2 (HH.out.2 HHH.out); clear hb)
                go_roundw
                case rel => exact ⟨i + 1, q + q2, _, by omega, by go_num, rfl, by simp only [Hid]; rw [HW.out, World.drewN_drewN], F.out⟩
                case measure => (simp [intOf]; try omega)
              · have F : Hid (SnI l s a k (i + 1) false) := HI.out.next HHN.out false (by simp [hh])
                have HHH := Lib.hid hh
                clear hh
                go_wp2_with (go_at_call 60; refine HB1.out.mono ?_; rintro e w' ⟨bb, q2, rfl, hb, rfl⟩; obtain rfl : bb = false := one_no (hb.trans HH.out) HHH.out; clear hb)
                go_roundw
                case rel => exact ⟨i + 1, q + q2, _, by omega, by go_num, rfl, by simp only [Hid]; rw [HW.out, World.drewN_drewN], F.out⟩
                case measure => (simp [intOf]; try omega)
            · have F : Hid (SnI l s a k (i + 1) false) := HI.out.next HHN.out false (by simp [mor_at HE1.out hkx])
              have g2 := decide_eq_false hkx
              have g3 := decide_eq_false (show ¬ (k : Int) < (x : Int) by omega)
              clear HRJ HRB2 hxk
              rcases hz with hz | ⟨hz1, hz2⟩
              · have g1 := decide_eq_false (show ¬ 0 < x by omega)
                have g4 := decide_eq_false (show ¬ (0 : Int) < (x : Int) by omega)
                clear hz
                go_wp2
                go_roundw
                case rel => exact ⟨i + 1, q, _, by omega, by go_num, rfl, HW.out, F.out⟩
                case measure => (simp [intOf]; try omega)
              · have g1 := decide_eq_true hz1
                have g4 := decide_eq_true (show (0 : Int) < (x : Int) by omega)
                have g5 : ((x : Int) == (k : Int)) = false := beq_eq_false_iff_ne.2 (by omega)
                have g6 : (x == k) = false := beq_eq_false_iff_ne.2 (by omega)
                clear hz1 hz2
                go_wp2
                go_roundw
                case rel => exact ⟨i + 1, q, _, by omega, by go_num, rfl, HW.out, F.out⟩
                case measure => (simp [intOf]; try omega)
          · have F : Hid (SnI l s a k (i + 1) true) := HI.out.next HHN.out true (by simp)
            clear HRJ HRB2 hxk
            rcases hz with hz | ⟨hz1, hz2⟩
            · have g1 := decide_eq_false (show ¬ 0 < x by omega)
              have g4 := decide_eq_false (show ¬ (0 : Int) < (x : Int) by omega)
              clear hz
              go_wp2
              go_roundw
              case rel => exact ⟨i + 1, q, _, by omega, by go_num, rfl, HW.out, F.out⟩
              case measure => (simp [intOf]; try omega)
            · have g1 := decide_eq_true hz1
              have g4 := decide_eq_true (show (0 : Int) < (x : Int) by omega)
              have g5 : ((x : Int) == (k : Int)) = false := beq_eq_false_iff_ne.2 (by omega)
              have g6 : (x == k) = false := beq_eq_false_iff_ne.2 (by omega)
              clear hz1 hz2
              go_wp2
              go_roundw
              case rel => exact ⟨i + 1, q, _, by omega, by go_num, rfl, HW.out, F.out⟩
              case measure => (simp [intOf]; try omega)
      · obtain rfl : i = l.length := by omega
        have i1 := decide_eq_false (show ¬ (l.length : Int) < (l.length : Int) by omega)
        have HD := Lib.hid (HI.out.done HC.out)
        clear HI
        rcases b with _ | _
        · have F : Hid (one l s a = (0, 0, 7)) := by
            simp only [Hid]; rw [HN.out, oneR_none HD.out.1 (fun h => by have := HD.out.2.2 h; cases this)]
          clear HD
          go_wp2
          go_ret3
          exact ⟨⟨q, HW.out⟩, .inr ⟨7, by decide, rfl, F.out⟩⟩
        · have hm := HD.out.2.1 rfl
          by_cases hsh : k = M
          · have F : Hid (one l s a = (0, 0, 3)) := by
              simp only [Hid]; rw [HN.out, oneR_short HD.out.1 hm (by have := HM.out; omega)]
            have g5 : ((k : Int) == (M : Int)) = true := beq_iff_eq.2 (by omega)
            have g6 : (k == M) = true := beq_iff_eq.2 hsh
            clear HD hm hsh
            go_wp2
            go_ret3
            exact ⟨⟨q, HW.out⟩, .inr ⟨3, by decide, rfl, F.out⟩⟩
          · have F : Hid (one l s a = oneR l s a (16 - (k + 1)) (k + 1)) := by
              simp only [Hid]; rw [HN.out, oneR_on HD.out.1 hm (by have := HM.out; omega), show 16 - (k + 1) = f by have := HF.out; omega]
            have HK15 := Lib.hid (mor_lt hm)
            have g5 : ((k : Int) == (M : Int)) = false := beq_eq_false_iff_ne.2 (by omega)
            have g6 : (k == M) = false := beq_eq_false_iff_ne.2 hsh
            have hk2 : a + (k + 1) ≤ 8 * s.size := by have := HM.out; omega
            clear HD hm hsh
            go_wp2
            refine ⟨⟨k + 1, q, by have := HK15.out; omega, hk2, by go_num, HW.out, F.out⟩, ?_⟩
            have := HK15.out
            simp [intOf]; omega
end Go.Proofs.Ytebgcemglicjiaa
