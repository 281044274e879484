/- linenref.Glob, walked. -/
import Derived.Test.YtgidfmdbaimcnaaDoorGrP
import Derived.Test.YtgidfmdbaimcnaaDoorGrW
import Derived.Test.YtgidfmdbaimcnaaDoorGbX
import Derived.Deep.RegionLaw
namespace Go.Proofs.YtgidfmdbaimcnaaDoor
open Go.RowKit Go.Shelf Go.PlainAid

def bolR (N : Nat) (f : Nat → Bool) : Array Value := ((List.range N).map fun i => Value.bool (f i)).toArray
theorem bolR_size (N : Nat) (f : Nat → Bool) : (bolR N f).size = N := by simp [bolR]
theorem bolR_get {N : Nat} (f : Nat → Bool) {i : Nat} (h : i < N) : (bolR N f)[i]? = some (.bool (f i)) := by simp [bolR, h]
theorem bolR_congr {N : Nat} {f g : Nat → Bool} (h : ∀ i, i < N → f i = g i) : bolR N f = bolR N g := by
  unfold bolR
  congr 1
  exact List.map_congr_left fun i hi => by rw [h i (List.mem_range.1 hi)]
theorem bolR_set {N : Nat} {f g : Nat → Bool} {k : Nat} {v : Bool} (h : ∀ i, i < N → g i = if i = k then v else f i) : (bolR N f).setIfInBounds k (.bool v) = bolR N g := by
  apply Array.ext
  · rw [Array.size_setIfInBounds, bolR_size, bolR_size]
  · intro i h1 h2
    rw [bolR_size] at h2
    have e := bolR_get g h2
    rw [Array.getElem?_eq_getElem (by rw [bolR_size]; exact h2)] at e
    injection e with e
    rw [e, h i h2, Array.getElem_setIfInBounds]
    by_cases hik : i = k
    · subst hik; rw [if_pos rfl, if_pos rfl]
    · rw [if_neg (fun e => hik e.symm), if_neg hik]
      have e2 := bolR_get f h2
      rw [Array.getElem?_eq_getElem (by rw [bolR_size]; exact h2)] at e2
      injection e2
    · rw [bolR_size]; exact h2
theorem info_bool : (Tryd.prog.info? 4).map (fun i => (i.zero, i.size, i.bytes)) = some (some (.bool false), 1, 1) := by kernel_rfl
theorem mk_bool (T S : Nat) (hS : S = T + 1) (hN : T ≤ 520) : ∀ W : World, (Instr.makeSlice 41 (.int .i64 ((T : Int) + 1)) (.int .i64 ((T : Int) + 1))).run Tryd.prog W = .ok (.slice (some ⟨W.heap.size, 0, none⟩) S S) (W.alloc (.cells (bolR S (fun _ => false)) 4)) := fun W => by
  obtain ⟨i, hi, hzz⟩ := Option.map_eq_some_iff.1 info_bool
  simp only [Prod.mk.injEq] at hzz
  obtain ⟨hz, hs, hbb⟩ := hzz
  have := run_make (P := Tryd.prog) W 41 4 i (.bool false) Tryd.underlying41 hi hz .i64 .i64 S S (by omega) (by omega) (by rw [hbb]; omega) (by omega)
  rw [hs] at this
  rw [show (T : Int) + 1 = (S : Int) by omega, this, Int.toNat_natCast]
  have e : madeCells (Value.bool false).cells (S * 1) = bolR S (fun _ => false) := by
    apply Array.ext'
    rw [Nat.mul_one]
    refine (toList_madeCells_one (.bool false) S).trans ?_
    simp only [bolR]
    rw [List.map_const', List.length_range]
  rw [e]
theorem mt_row_run {pcs : List Pc} {t : List Int} {i k : Nat} {p : Pc} (hp : pcs[i]? = some p) (hr : p.run = true) (hk : k < t.length) : mt (pcs.drop i) (t.drop k) = (mt (pcs.drop (i + 1)) (t.drop k) || mt (pcs.drop i) (t.drop (k + 1))) := by
  rw [drop_get hp, mt_run hr]
  obtain ⟨c, hc⟩ : ∃ c, t[k]? = some c := ⟨_, List.getElem?_eq_getElem hk⟩
  conv => lhs; rw [drop_get hc]
  conv => rhs; rw [drop_get hc]
theorem mt_row_end {pcs : List Pc} {t : List Int} {i k : Nat} {p : Pc} (hp : pcs[i]? = some p) (hr : p.run = true) (hk : t.length ≤ k) : mt (pcs.drop i) (t.drop k) = mt (pcs.drop (i + 1)) (t.drop k) := by
  rw [drop_get hp, mt_run hr, List.drop_of_length_le hk]
  simp
theorem mt_row_one {pcs : List Pc} {t : List Int} {i k : Nat} {p : Pc} {c : Int} (hp : pcs[i]? = some p) (hr : p.run = false) (hc : t[k]? = some c) : mt (pcs.drop i) (t.drop k) = (hitP p c && mt (pcs.drop (i + 1)) (t.drop (k + 1))) := by
  rw [drop_get hp, mt_one hr, drop_get hc]
theorem mt_row_off {pcs : List Pc} {t : List Int} {i k : Nat} {p : Pc} (hp : pcs[i]? = some p) (hr : p.run = false) (hk : t.length ≤ k) : mt (pcs.drop i) (t.drop k) = false := by
  rw [drop_get hp, mt_one hr, List.drop_of_length_le hk]
section
variable {n c : Nat} {A : Option Addr} {l : List Int} {w : World}
theorem pieces_no (hr : RowsIn w w.heap.size A n c e64 1 l) (hn : n ≤ 4096) (h : ptsR l = none) : Calls Tryd.prog 10 #[.slice A n c] w fun e w' => ∃ D m d, e = .returned (.tuple #[.slice D m d, .bool false]) ∧ Below w.heap.size w w' := by
  refine (pieces_any (n + 1) n A c l w (by omega) hr hn).mono ?_
  rintro e w' ⟨qs, D, d, rfl, _, _, _, _, hb⟩
  exact ⟨D, _, d, by rw [h]; rfl, hb⟩
theorem pieces_yes (hr : RowsIn w w.heap.size A n c e64 1 l) (hn : n ≤ 4096) {pcs : List Pc} (h : ptsR l = some pcs) : Calls Tryd.prog 10 #[.slice A n c] w fun e w' => ∃ D d, e = .returned (.tuple #[.slice D pcs.length d, .bool true]) ∧ PtsAt spnR w' w'.heap.size D pcs.length d pcs ∧ Below w.heap.size w w' := by
  refine (pieces_any (n + 1) n A c l w (by omega) hr hn).mono ?_
  rintro e w' ⟨qs, D, d, rfl, h1, h2, h3, _, hb⟩
  have h4 := h3 pcs h
  have h5 : qs.length = pcs.length := by rw [← h4, List.length_map]
  rw [h5] at h1 ⊢
  exact ⟨D, d, by rw [h]; rfl, ⟨qs, h1, h2, h4⟩, hb⟩
end
/-- The row of the table for the parts from j on. -/
structure GlO (w2 : World) (pcs : List Pc) (t : List Int) (S j gr : Nat) (wr : World) : Prop where
  row : wr.heap[gr]? = some (.cells (bolR S (fun k => mt (pcs.drop j) (t.drop k))) 4 (0, 0))
  ge : w2.heap.size ≤ gr
  below : Below w2.heap.size w2 wr
/-- The same, while the row for the parts from i on is made in block gn, down to m. -/
structure GlI (w2 : World) (pcs : List Pc) (t : List Int) (S i gr gn m : Nat) (wr : World) : Prop where
  row : wr.heap[gr]? = some (.cells (bolR S (fun k => mt (pcs.drop (i + 1)) (t.drop k))) 4 (0, 0))
  nxt : wr.heap[gn]? = some (.cells (bolR S (fun k => decide (m ≤ k) && mt (pcs.drop i) (t.drop k))) 4 (0, 0))
  ge : w2.heap.size ≤ gr
  ge2 : w2.heap.size ≤ gn
  ne : gr ≠ gn
  below : Below w2.heap.size w2 wr
section
variable {w2 wr w' : World} {pcs : List Pc} {t : List Int} {S i gr gn k m : Nat}
theorem GlI.put (h : GlI w2 pcs t S i gr gn (k + 1) wr) (b : Bool) (hb : mt (pcs.drop i) (t.drop k) = b) : GlI w2 pcs t S i gr gn k (wr.setCell ⟨gn, k, none⟩ (.bool b)) := by
  have h1 := row_store (j := k) (v := .bool b) h.nxt
  rw [bolR_set (g := fun j => decide (k ≤ j) && mt (pcs.drop i) (t.drop j)) (fun j _ => by
    by_cases e : j = k
    · subst e; simp [hb]
    · rw [if_neg e]
      congr 1
      rw [decide_eq_decide]; omega)] at h1
  exact ⟨row_other h.row h.ne, h1, h.ge, h.ge2, h.ne, h.below.setCell (p := ⟨gn, k, none⟩) h.ge2 _⟩
theorem GlI.go (h : GlI w2 pcs t S i gr gn m wr) (hb : Below wr.heap.size wr w') : GlI w2 pcs t S i gr gn m w' :=
  ⟨row_below h.row (row_lt h.row) hb, row_below h.nxt (row_lt h.nxt) hb, h.ge, h.ge2, h.ne, h.below.trans (hb.mono h.below.size)⟩
theorem GlI.done (h : GlI w2 pcs t S i gr gn 0 wr) : GlO w2 pcs t S i gn wr := by
  have h1 := h.nxt
  rw [bolR_congr (g := fun k => mt (pcs.drop i) (t.drop k)) (fun j _ => by simp)] at h1
  exact ⟨h1, h.ge2, h.below⟩
end
section
variable {wp W W' : World} {N gn : Nat} {a0 a1 a2 a3 a4 : Addr} {v0 v1 v2 v3 v4 : Value}
theorem OnlyB.grow (h : OnlyB gn wp W) (hg : gn < wp.heap.size) (hb : Below W.heap.size W W') : OnlyB gn wp W' := by
  have hs := h.size
  exact ⟨fun B hB => (h.1 B hB).trans (hb.mono (by omega)), fun g hne hl => (hb.block g (by omega)).trans (h.2 g hne hl)⟩
theorem keepGd (h : W.cell? a0 = some v0 ∧ W.cell? a1 = some v1 ∧ W.cell? a2 = some v2 ∧ W.cell? a3 = some v3 ∧ W.cell? a4 = some v4 ∧ N ≤ W.heap.size ∧ OnlyB gn wp W) : W.drew.cell? a0 = some v0 ∧ W.drew.cell? a1 = some v1 ∧ W.drew.cell? a2 = some v2 ∧ W.drew.cell? a3 = some v3 ∧ W.drew.cell? a4 = some v4 ∧ N ≤ W.drew.heap.size ∧ OnlyB gn wp W.drew := by
  obtain ⟨h0, h1, h2, h3, h4, h5, h6⟩ := h
  exact ⟨h0, h1, h2, h3, h4, h5, h6.drewN 1⟩
theorem keepGb (hg : gn < wp.heap.size) (b0 : a0.block < N) (b1 : a1.block < N) (b2 : a2.block < N) (b3 : a3.block < N) (b4 : a4.block < N) (h : W.cell? a0 = some v0 ∧ W.cell? a1 = some v1 ∧ W.cell? a2 = some v2 ∧ W.cell? a3 = some v3 ∧ W.cell? a4 = some v4 ∧ N ≤ W.heap.size ∧ OnlyB gn wp W) (hb : Below W.heap.size W W') : W'.cell? a0 = some v0 ∧ W'.cell? a1 = some v1 ∧ W'.cell? a2 = some v2 ∧ W'.cell? a3 = some v3 ∧ W'.cell? a4 = some v4 ∧ N ≤ W'.heap.size ∧ OnlyB gn wp W' := by
  obtain ⟨h0, h1, h2, h3, h4, h5, h6⟩ := h
  have hs := hb.size
  exact ⟨(hb.cell (p := a0) (by omega)).trans h0, (hb.cell (p := a1) (by omega)).trans h1, (hb.cell (p := a2) (by omega)).trans h2, (hb.cell (p := a3) (by omega)).trans h3, (hb.cell (p := a4) (by omega)).trans h4, by omega, h6.grow hg hb⟩
theorem keepGs {k : Nat} {v : Value} (b0 : a0.block ≠ gn) (b1 : a1.block ≠ gn) (b2 : a2.block ≠ gn) (b3 : a3.block ≠ gn) (b4 : a4.block ≠ gn) (h : W.cell? a0 = some v0 ∧ W.cell? a1 = some v1 ∧ W.cell? a2 = some v2 ∧ W.cell? a3 = some v3 ∧ W.cell? a4 = some v4 ∧ N ≤ W.heap.size ∧ OnlyB gn wp W) :
    (W.setCell ⟨gn, k, none⟩ v).cell? a0 = some v0 ∧ (W.setCell ⟨gn, k, none⟩ v).cell? a1 = some v1 ∧ (W.setCell ⟨gn, k, none⟩ v).cell? a2 = some v2 ∧ (W.setCell ⟨gn, k, none⟩ v).cell? a3 = some v3 ∧ (W.setCell ⟨gn, k, none⟩ v).cell? a4 = some v4 ∧ N ≤ (W.setCell ⟨gn, k, none⟩ v).heap.size ∧ OnlyB gn wp (W.setCell ⟨gn, k, none⟩ v) := by
  obtain ⟨h0, h1, h2, h3, h4, h5, h6⟩ := h
  have key : ∀ (a : Addr) (x : Value), a.block ≠ gn → W.cell? a = some x → (W.setCell ⟨gn, k, none⟩ v).cell? a = some x := fun a x hne hc => by
    rw [World.cell?_of_block (w := W) (a := a) (Below.heap_setCell _ _ _ _ (by exact hne))]; exact hc
  exact ⟨key _ _ b0 h0, key _ _ b1 h1, key _ _ b2 h2, key _ _ b3 h3, key _ _ b4 h4, by simp [World.setCell]; exact h5, h6.set k v⟩
theorem keepGw (h : W.cell? a0 = some v0 ∧ W.cell? a1 = some v1 ∧ W.cell? a2 = some v2 ∧ W.cell? a3 = some v3 ∧ W.cell? a4 = some v4 ∧ N ≤ W.heap.size ∧ OnlyB gn wp W) : OnlyB gn wp W := h.2.2.2.2.2.2
end
set_option maxRecDepth 100000 in
set_option maxHeartbeats 2000000 in
theorem rglob_any (p s : ByteArray) (w : World) : Calls Tryd.prog 5 #[.string p, .string s] w (MtPost (gbV p s).1 (gbV p s).2 w) := by
  by_cases h1 : 40 < p.size
  · rw [show gbV p s = (false, 2) by unfold gbV; rw [if_pos (.inl h1)]]
    have k1 : (40 : Int) < (p.size : Int) := by omega
    clear h1
    go_enter Tryd.func5, Tryd.ntmps5
    go_wp2
    go_ret2
    exact ⟨rfl, Below.refl _ _⟩
  have k1 : ¬ (40 : Int) < (p.size : Int) := by omega
  by_cases h3 : 40 < s.size
  · rw [show gbV p s = (false, 2) by unfold gbV; rw [if_pos (.inr h3)]]
    have k2 : (40 : Int) < (s.size : Int) := by omega
    clear h1 h3
    go_enter Tryd.func5, Tryd.ntmps5
    go_wp2
    go_ret2
    exact ⟨rfl, Below.refl _ _⟩
  have k2 : ¬ (40 : Int) < (s.size : Int) := by omega
  have HP : Hid (∀ W, Calls Tryd.prog 9 #[.string p] W (SgPost p W)) := fun W => rsigns_any p (by omega) W
  have HS : Hid (∀ W, Calls Tryd.prog 9 #[.string s] W (SgPost s W)) := fun W => rsigns_any s (by omega) W
  unfold SgPost at HP HS
  have hlp := (sgs_len _ p (Nat.le_refl _)).1
  have hls := (sgs_len _ s (Nat.le_refl _)).1
  obtain ⟨l, hl⟩ : ∃ l, sgs p = l := ⟨_, rfl⟩
  obtain ⟨t, ht⟩ : ∃ t, sgs s = t := ⟨_, rfl⟩
  cases hp : ptsR l with
  | none =>
    rw [show gbV p s = (false, 4) by unfold gbV; rw [if_neg (by omega), hl, hp]]
    rw [hl] at HP hlp
    rw [ht] at HS hls
    obtain ⟨T, hTl⟩ : ∃ T, t.length = T := ⟨_, rfl⟩
    obtain ⟨N, hNl⟩ : ∃ N, l.length = N := ⟨_, rfl⟩
    rw [hTl] at HS
    rw [hNl] at HP
    have HPT := Lib.hid hp
    have hN : N ≤ 4096 := by omega
    clear hl ht hp h1 h3 hTl hNl hlp hls
    go_enter Tryd.func5, Tryd.ntmps5
    go_wp2_with (first
      | (go_at_call 10; refine (pieces_no HR.out hN HPT.out).mono ?_; rintro e w3 ⟨E, m, d2, rfl, g1⟩; have HB3 := Lib.hid (HB2.out.trans (g1.mono HB2.out.size)); clear g1)
      | (go_at_call 9; refine (HS.out w1).mono ?_; rintro e w2 ⟨D2, d2, v2, rfl, g1, _, g2⟩; have HR := Lib.hid ((HR1.out.below g2).more g2.size); have HB2 := Lib.hid (HB1.out.trans (g2.mono HB1.out.size)); clear g1 g2)
      | (go_at_call 9; refine (HP.out w).mono ?_; rintro e w1 ⟨D, d, v, rfl, g1, _, g2⟩; have HR1 := Lib.hid g1; have HB1 := Lib.hid g2; clear g1 g2))
    go_ret2
    exact ⟨rfl, HB3.out⟩
  | some pcs =>
    rw [show gbV p s = (mt pcs t, 0) by unfold gbV; rw [if_neg (by omega), hl, hp, ht]]
    rw [hl] at HP hlp
    rw [ht] at HS hls
    have hLs : pcs.length ≤ 4096 := by have e1 := pts_len _ _ _ hp; omega
    obtain ⟨T, hTl⟩ : ∃ T, t.length = T := ⟨_, rfl⟩
    obtain ⟨N, hNl⟩ : ∃ N, l.length = N := ⟨_, rfl⟩
    obtain ⟨L, hLl⟩ : ∃ L, pcs.length = L := ⟨_, rfl⟩
    have hT40 : T ≤ 40 := by omega
    have hN : N ≤ 4096 := by omega
    rw [hTl] at HS
    rw [hNl] at HP
    rw [hLl] at hLs
    have HPC : Hid (∀ (A : Option Addr) (c : Nat) (W : World), RowsIn W W.heap.size A N c e64 1 l → Calls Tryd.prog 10 #[.slice A N c] W fun e w' => ∃ D d, e = .returned (.tuple #[.slice D L d, .bool true]) ∧ PtsAt spnR w' w'.heap.size D L d pcs ∧ Below W.heap.size W w') := fun A c W hr => by
      have := pieces_yes hr hN hp
      rwa [hLl] at this
    have HTL := Lib.hid hTl
    have HLL := Lib.hid hLl
    obtain ⟨S, hS⟩ : ∃ S, S = T + 1 := ⟨_, rfl⟩
    have hmk := mk_bool T S hS (by omega)
    have hTS : (T : Int) < (S : Int) := by omega
    have HSS := Lib.hid hS
    clear hl ht hp h1 h3 hTl hNl hLl hlp hls hS
    go_enter Tryd.func5, Tryd.ntmps5
    go_upto_region 9 with (first
      | (go_at_call 10; refine (HPC.out _ _ _ HR.out).mono ?_; rintro e w3 ⟨E, e3, rfl, g1, g2⟩; have HPT := Lib.hid g1; have HB3 := Lib.hid (HB2.out.trans (g2.mono HB2.out.size)); have HTX := Lib.hid ((HR2.out.below g2).more g2.size); clear g1 g2)
      | (go_at_call 9; refine (HS.out w1).mono ?_; rintro e w2 ⟨D2, d2, v2, rfl, g1, _, g2⟩; have HR := Lib.hid ((HR1.out.below g2).more g2.size); have HR2 := Lib.hid g1; have HB2 := Lib.hid (HB1.out.trans (g2.mono HB1.out.size)); clear g1 g2)
      | (go_at_call 9; refine (HP.out w).mono ?_; rintro e w1 ⟨D, d, v, rfl, g1, _, g2⟩; have HR1 := Lib.hid g1; have HB1 := Lib.hid g2; clear g1 g2))
    obtain ⟨w4, hw4⟩ : ∃ z, z = w3.alloc (.cells (bolR S (fun _ => false)) 4) := ⟨_, rfl⟩
    obtain ⟨g0, hg0⟩ : ∃ z, z = w3.heap.size := ⟨_, rfl⟩
    rw [← hw4, ← hg0]
    have hh4 : w4.heap[g0]? = some (.cells (bolR S (fun _ => false)) 4 (0, 0)) := by rw [hw4, hg0]; exact heap_alloc_new w3 _
    have hb4 : Below w3.heap.size w3 w4 := by rw [hw4]; exact (Below.refl _ _).alloc (Nat.le_refl _) _
    have c0 : w4.cell? ⟨g0, T, none⟩ = some (.bool false) := by rw [row_cell hh4 T]; exact bolR_get _ (by have := HSS.out; omega)
    have f0 := row_cold hh4 T
    have L0 : Hid (GlO w3 pcs t S L g0 (w4.setCell ⟨g0, T, none⟩ (.bool true))) := by
      have h1 := row_store (j := T) (v := .bool true) hh4
      rw [bolR_set (g := fun k => mt (pcs.drop L) (t.drop k)) (fun j hj => by
        have := HSS.out
        rw [List.drop_of_length_le (by have := HLL.out; omega), mt_nil]
        by_cases e : j = T
        · subst e; rw [List.drop_of_length_le (by have := HTL.out; omega), if_pos rfl]; rfl
        · rw [if_neg e]
          cases hd : t.drop j with
          | nil => have := congrArg List.length hd; rw [List.length_drop, List.length_nil] at this; have := HTL.out; omega
          | cons _ _ => rfl)] at h1
      exact ⟨h1, by omega, hb4.setCell (p := ⟨g0, T, none⟩) (by show _ ≤ g0; omega) _⟩
    have hwL : wrap64 ((L : Int) - 1) = (L : Int) - 1 := by unfold wrap64; omega
    clear hw4 hg0 hh4 hb4
    go_wp2
    go_loopw [12, 13] (fun v12 v13 wr => ∃ (j gr : Nat) (q : Int), v12 = .slice (some ⟨gr, 0, none⟩) S S ∧ v13 = .int .i64 q ∧ Hid (q = (j : Int) - 1) ∧ j ≤ L ∧ Hid (GlO w3 pcs t S j gr wr)) (fun _ v13 _ => (intOf v13 + 1).toNat)
    case atStart => exact ⟨L, g0, (L : Int) - 1, rfl, rfl, rfl, Nat.le_refl _, L0⟩
    case round =>
      obtain ⟨j, gr, q, rfl, rfl, HQ, hj, HI⟩ := hrel
      obtain ⟨wq, rfl⟩ : ∃ z : World, z = wr := ⟨_, rfl⟩
      cases j with
      | zero =>
        obtain rfl : q = -1 := by have := HQ.out; omega
        have cr : wq.cell? ⟨gr, 0, none⟩ = some (.bool (mt pcs t)) := by rw [row_cell HI.out.row 0]; exact bolR_get _ (by have := HSS.out; omega)
        have hS0 : (0 : Int) < (S : Int) := by omega
        have hS1 : 0 < S := by omega
        clear HQ L0 c0 f0
        go_wp2
        go_ret2
        exact ⟨rfl, HB3.out.trans (HI.out.below.mono HB3.out.size)⟩
      | succ i =>
        obtain rfl : q = (i : Int) := by have := HQ.out; omega
        have hi0 : (0 : Int) ≤ (i : Int) := by omega
        have hiL : (i : Int) < (L : Int) := by omega
        obtain ⟨pc, hpc⟩ : ∃ pc, pcs[i]? = some pc := ⟨_, List.getElem?_eq_getElem (by have := HLL.out; omega)⟩
        clear HQ L0 c0 f0 hwL
        go_upto_region 14 with fail
        obtain ⟨w5, hw5⟩ : ∃ z, z = wq.alloc (.cells (bolR S (fun _ => false)) 4) := ⟨_, rfl⟩
        obtain ⟨gn, hgn⟩ : ∃ z, z = wq.heap.size := ⟨_, rfl⟩
        rw [← hw5, ← hgn]
        have I0 : Hid (GlI w3 pcs t S i gr gn S w5) := by
          have hb5 : Below wq.heap.size wq w5 := by rw [hw5]; exact (Below.refl _ _).alloc (Nat.le_refl _) _
          have hr := row_lt HI.out.row
          have hh := heap_alloc_new wq (.cells (bolR S (fun _ => false)) 4)
          rw [← hw5, ← hgn, bolR_congr (g := fun k => decide (S ≤ k) && mt (pcs.drop i) (t.drop k)) (fun j hj => by rw [decide_eq_false (by omega)]; rfl)] at hh
          exact ⟨row_below HI.out.row hr hb5, hh, HI.out.ge, by have := HI.out.below.size; omega, by omega, HI.out.below.trans (hb5.mono HI.out.below.size)⟩
        have HPC2 := Lib.hid hpc
        clear hw5 hgn hpc
        go_wp2
        go_loopw [15] (fun v15 wr => ∃ (m : Nat) (q : Int), v15 = .int .i64 q ∧ Hid (q = (m : Int) - 1) ∧ m ≤ S ∧ Hid (GlI w3 pcs t S i gr gn m wr)) (fun v15 _ => (intOf v15 + 1).toNat)
        case atStart => exact ⟨S, T, rfl, by show _ = _; have := HSS.out; omega, Nat.le_refl _, I0⟩
        case round =>
          obtain ⟨m, q, rfl, HQ, hm, HJ⟩ := hrel
          obtain ⟨wp, rfl⟩ : ∃ z : World, z = wr := ⟨_, rfl⟩
          cases m with
          | zero =>
            obtain rfl : q = -1 := by have := HQ.out; omega
            have HD := Lib.hid HJ.out.done
            clear HQ I0
            go_wp2
            go_roundw
            case rel => exact ⟨i, gn, (i : Int) - 1, rfl, by go_num, rfl, by omega, HD⟩
            case measure => (simp [intOf]; try omega)
          | succ k =>
            obtain rfl : q = (k : Int) := by have := HQ.out; omega
            have hk0 : (0 : Int) ≤ (k : Int) := by omega
            have hkS : (k : Int) < (S : Int) := by omega
            have cr : wp.cell? ⟨gr, k, none⟩ = some (.bool (mt (pcs.drop (i + 1)) (t.drop k))) := by rw [row_cell HJ.out.row k]; exact bolR_get _ (by omega)
            have cn : wp.cell? ⟨gn, k, none⟩ = some (.bool (decide (k + 1 ≤ k) && mt (pcs.drop i) (t.drop k))) := by rw [row_cell HJ.out.nxt k]; exact bolR_get _ (by omega)
            have fn := row_cold HJ.out.nxt k
            obtain ⟨gp, op, A, cA, rfl, hgp, c0, c1, c2, hsp⟩ := (HPT.out.below HJ.out.below).get HPC2.out
            have hsS := HSS.out
            have hk40 : (k : Int) ≤ 40 := by omega
            have hwk : wrap64 ((k : Int) - 1) = (k : Int) - 1 := by unfold wrap64; omega
            obtain ⟨ru, ng, sp⟩ := pc
            simp only at c0 c1 c2 hsp
            generalize hB0 : mt (pcs.drop (i + 1)) (t.drop k) = B0 at *
            cases ru with
            | true =>
              by_cases hkT : k < T
              · have hkc : (k : Int) < (T : Int) := by omega
                have hHV := mt_row_run HPC2.out rfl (k := k) (t := t) (by have := HTL.out; omega)
                have cn1 : wp.cell? ⟨gn, k + 1, none⟩ = some (.bool (mt (pcs.drop i) (t.drop (k + 1)))) := by rw [row_cell HJ.out.nxt (k + 1), bolR_get _ (by omega)]; simp
                generalize mt (pcs.drop i) (t.drop (k + 1)) = B1 at *
                rw [hB0] at hHV
                have HV := Lib.hid hHV
                have hkS1 : (k : Int) + 1 < (S : Int) := by omega
                have hk1 : (0 : Int) ≤ (k : Int) + 1 := by omega
                have hkn : ((k : Int) + 1).toNat = k + 1 := by omega
                have hB0' := Lib.hid hB0
                clear hB0 hHV hsS hsp I0 HQ
                cases B0 with
                | true =>
                  go_wp2
                  go_roundw
                  case rel => exact ⟨k, (k : Int) - 1, (by first | rfl | exact val_int hwk), rfl, by omega, HJ.out.put _ (by rw [HV.out]; rfl)⟩
                  case measure => (simp [intOf]; try omega)
                | false =>
                  go_wp2
                  go_roundw
                  case rel => exact ⟨k, (k : Int) - 1, (by first | rfl | exact val_int hwk), rfl, by omega, HJ.out.put _ (by rw [HV.out]; rfl)⟩
                  case measure => (simp [intOf]; try omega)
              · have hkc : ¬ (k : Int) < (T : Int) := by omega
                have hHV := mt_row_end HPC2.out rfl (k := k) (t := t) (by have := HTL.out; omega)
                rw [hB0] at hHV
                have HV := Lib.hid hHV
                have hB0' := Lib.hid hB0
                clear hB0 hHV hsS hsp I0 HQ
                cases B0 with
                | true =>
                  go_wp2
                  go_roundw
                  case rel => exact ⟨k, (k : Int) - 1, (by first | rfl | exact val_int hwk), rfl, by omega, HJ.out.put _ HV.out⟩
                  case measure => (simp [intOf]; try omega)
                | false =>
                  go_wp2
                  go_roundw
                  case rel => exact ⟨k, (k : Int) - 1, (by first | rfl | exact val_int hwk), rfl, by omega, HJ.out.put _ HV.out⟩
                  case measure => (simp [intOf]; try omega)
            | false =>
              by_cases hkT : k < T
              · have hkc : (k : Int) < (T : Int) := by omega
                obtain ⟨c, hc⟩ : ∃ c, t[k]? = some c := ⟨_, List.getElem?_eq_getElem (by have := HTL.out; omega)⟩
                obtain ⟨gt, ot, rfl, hgt, hct⟩ := (HTX.out.below HJ.out.below).one hc
                have hHV := mt_row_one HPC2.out rfl hc
                have cr1 : wp.cell? ⟨gr, k + 1, none⟩ = some (.bool (mt (pcs.drop (i + 1)) (t.drop (k + 1)))) := by rw [row_cell HJ.out.row (k + 1), bolR_get _ (by omega)]
                generalize mt (pcs.drop (i + 1)) (t.drop (k + 1)) = B1 at *
                have hkS1 : (k : Int) + 1 < (S : Int) := by omega
                have hk1 : (0 : Int) ≤ (k : Int) + 1 := by omega
                have hkn : ((k : Int) + 1).toNat = k + 1 := by omega
                have hwk1 : IntKind.i64.wrap ((k : Int) + 1) = (k : Int) + 1 := by rw [IntKind.wrap_i64]; omega
                have hgw3 : w3.heap.size ≤ gn := HJ.out.ge2
                have HIN : Hid (∀ W, OnlyB gn wp W → Calls Tryd.prog 11 #[.agg #[.bool false, .bool ng, .slice A sp.length cA], .int .i64 c] W fun e w' => e = .returned (.bool (hitP ⟨false, ng, sp⟩ c)) ∧ Below W.heap.size W w') := fun W hW => in_any ⟨false, ng, sp⟩ A cA c W ((hsp.below (hW.below hgw3)).more (Nat.le_trans HJ.out.below.size hW.size))
                have hgp2 : gp < wp.heap.size := by have := HJ.out.below.size; omega
                have hgt2 : gt < wp.heap.size := by have := HJ.out.below.size; omega
                have hgr2 : gr < wp.heap.size := row_lt HJ.out.row
                have hgn2 : gn < wp.heap.size := row_lt HJ.out.nxt
                have hgp3 : gp ≠ gn := by omega
                have hgt3 : gt ≠ gn := by omega
                have hgr3 : gr ≠ gn := HJ.out.ne
                have hS5 : wp.cell? ⟨gp, op + i * 3, none⟩ = some (.bool false) ∧ wp.cell? ⟨gp, op + i * 3 + 1, none⟩ = some (.bool ng) ∧ wp.cell? ⟨gp, op + i * 3 + 2, none⟩ = some (.slice A sp.length cA) ∧ wp.cell? ⟨gt, ot + k, none⟩ = some (.int .i64 c) ∧ wp.cell? ⟨gr, k + 1, none⟩ = some (.bool B1) ∧ wp.heap.size ≤ wp.heap.size ∧ OnlyB gn wp wp := ⟨c0, c1, c2, hct, cr1, Nat.le_refl _, OnlyB.refl _ _⟩
                cases hh : hitP ⟨false, ng, sp⟩ c with
                | true =>
                  rw [hh] at hHV HIN
                  have HV : Hid (mt (pcs.drop i) (t.drop k) = B1) := by show _ = _; rw [hHV]; rfl
                  have HB0 := Lib.hid hB0
                  clear hB0 hHV hsS hsp I0 HQ hc hh cr
                  go_wp2
                  go_region_held3 (fun W => W.cell? ⟨gp, op + i * 3, none⟩ = some (.bool false) ∧ W.cell? ⟨gp, op + i * 3 + 1, none⟩ = some (.bool ng) ∧ W.cell? ⟨gp, op + i * 3 + 2, none⟩ = some (.slice A sp.length cA) ∧ W.cell? ⟨gt, ot + k, none⟩ = some (.int .i64 c) ∧ W.cell? ⟨gr, k + 1, none⟩ = some (.bool B1) ∧ wp.heap.size ≤ W.heap.size ∧ OnlyB gn wp W)
                    (first | assumption | exact keepGd (by assumption) | exact keepGb hgn2 hgp2 hgp2 hgp2 hgt2 hgr2 (by assumption) (by assumption) | exact keepGs hgp3 hgp3 hgp3 hgt3 hgr3 (by assumption))
                    ((go_at_call 11; refine (HIN.out _ (keepGw (by assumption))).mono ?_; rintro e w' ⟨rfl, hb⟩; have cn6 := (hb.cell (p := ⟨gn, k, none⟩) hgn2).trans cn; have fn6 := (hb.frozen (p := ⟨gn, k, none⟩) hgn2).trans fn; have HBW2 : Hid (Below wp.heap.size wp w') := (Below.refl _ _).drew.trans hb))
                  clear cn6 fn6 cn fn c0 c1 c2 cr1 hct hb
                  go_wp2
                  go_roundw
                  case rel => exact ⟨k, (k : Int) - 1, (by first | rfl | exact val_int hwk), rfl, by omega, (HJ.out.go HBW2.out).put _ HV.out⟩
                  case measure => (simp [intOf]; try omega)
                | false =>
                  rw [hh] at hHV HIN
                  have HV : Hid (mt (pcs.drop i) (t.drop k) = false) := by show _ = _; rw [hHV]; rfl
                  have HB0 := Lib.hid hB0
                  clear hB0 hHV hsS hsp I0 HQ hc hh cr
                  go_wp2
                  refine wp_region_noPanic ?_
                  refine wp_region_held_drew (S := (fun W => W.cell? ⟨gp, op + i * 3, none⟩ = some (.bool false) ∧ W.cell? ⟨gp, op + i * 3 + 1, none⟩ = some (.bool ng) ∧ W.cell? ⟨gp, op + i * 3 + 2, none⟩ = some (.slice A sp.length cA) ∧ W.cell? ⟨gt, ot + k, none⟩ = some (.int .i64 c) ∧ W.cell? ⟨gr, k + 1, none⟩ = some (.bool B1) ∧ wp.heap.size ≤ W.heap.size ∧ OnlyB gn wp W)) (by kernel_rfl) (keepGd hS5) (fun hHeld => ?_)
                  refine' wpAnyH_take (i := 0) (oi := _) (v := _) ?hi0 ?hs0 ?hf0 ?hr0 ?hQ0 (Or.inl ⟨?hw0, ?hy0⟩) ?hS0 ?rest0
                  case hi0 => ((try simp only [List.getElem?_toArray, List.getElem?_cons_zero]); rfl)
                  case hs0 => kernel_rfl
                  case hf0 => kernel_rfl
                  case hr0 => kernel_rfl
                  case hQ0 => exact fun _ _ _ h => h
                  case hw0 => rfl
                  case hS0 => assumption
                  case hy0 => (intro w hSw; (try dsimp only at hSw); go_simp; (try with_reducible rfl))
                  (try simp only [Act.put, List.setIfInBounds_toArray, List.set_cons_zero, List.set_cons_succ])
                  refine' wpAnyH_take (i := 1) (oi := _) (v := _) ?hi1 ?hs1 ?hf1 ?hr1 ?hQ1 (Or.inl ⟨?hw1, ?hy1⟩) ?hS1 ?rest1
                  case hi1 => ((try simp only [List.getElem?_toArray, List.getElem?_cons_succ, List.getElem?_cons_zero]); rfl)
                  case hs1 => kernel_rfl
                  case hf1 => kernel_rfl
                  case hr1 => kernel_rfl
                  case hQ1 => exact fun _ _ _ h => h
                  case hw1 => rfl
                  case hS1 => assumption
                  case hy1 => (intro w hSw; (try dsimp only at hSw); go_simp; (try with_reducible rfl))
                  (try simp only [Act.put, List.setIfInBounds_toArray, List.set_cons_zero, List.set_cons_succ])
                  refine' wpAnyH_take (i := 2) (oi := _) (v := _) ?hi2 ?hs2 ?hf2 ?hr2 ?hQ2 (Or.inl ⟨?hw2, ?hy2⟩) ?hS2 ?rest2
                  case hi2 => ((try simp only [List.getElem?_toArray, List.getElem?_cons_succ, List.getElem?_cons_zero]); rfl)
                  case hs2 => kernel_rfl
                  case hf2 => kernel_rfl
                  case hr2 => kernel_rfl
                  case hQ2 => exact fun _ _ _ h => h
                  case hw2 => rfl
                  case hS2 => assumption
                  case hy2 => (intro w hSw; (try dsimp only at hSw); go_simp; (try with_reducible rfl))
                  (try simp only [Act.put, List.setIfInBounds_toArray, List.set_cons_zero, List.set_cons_succ])
                  refine' wpAnyH_take (i := 3) (oi := _) (v := _) ?hi3 ?hs3 ?hf3 ?hr3 ?hQ3 (Or.inl ⟨?hw3, ?hy3⟩) ?hS3 ?rest3
                  case hi3 => ((try simp only [List.getElem?_toArray, List.getElem?_cons_succ, List.getElem?_cons_zero]); rfl)
                  case hs3 => kernel_rfl
                  case hf3 => kernel_rfl
                  case hr3 => kernel_rfl
                  case hQ3 => exact fun _ _ _ h => h
                  case hw3 => rfl
                  case hS3 => assumption
                  case hy3 => (intro w hSw; (try dsimp only at hSw); go_simp; (try with_reducible rfl))
                  (try simp only [Act.put, List.setIfInBounds_toArray, List.set_cons_zero, List.set_cons_succ])
                  refine' wpAnyH_take (i := 4) (oi := _) (v := _) ?hi4 ?hs4 ?hf4 ?hr4 ?hQ4 (Or.inl ⟨?hw4, ?hy4⟩) ?hS4 ?rest4
                  case hi4 => ((try simp only [List.getElem?_toArray, List.getElem?_cons_succ, List.getElem?_cons_zero]); rfl)
                  case hs4 => kernel_rfl
                  case hf4 => kernel_rfl
                  case hr4 => kernel_rfl
                  case hQ4 => exact fun _ _ _ h => h
                  case hw4 => rfl
                  case hS4 => assumption
                  case hy4 => (intro w hSw; (try dsimp only at hSw); go_simp; (try with_reducible rfl))
                  (try simp only [Act.put, List.setIfInBounds_toArray, List.set_cons_zero, List.set_cons_succ])
                  refine' wpAnyH_take (i := 5) (oi := _) (v := _) ?hi5 ?hs5 ?hf5 ?hr5 ?hQ5 (Or.inl ⟨?hw5, ?hy5⟩) ?hS5 ?rest5
                  case hi5 => ((try simp only [List.getElem?_toArray, List.getElem?_cons_succ, List.getElem?_cons_zero]); rfl)
                  case hs5 => kernel_rfl
                  case hf5 => kernel_rfl
                  case hr5 => kernel_rfl
                  case hQ5 => exact fun _ _ _ h => h
                  case hw5 => rfl
                  case hS5 => assumption
                  case hy5 => (intro w hSw; (try dsimp only at hSw); go_simp; (try with_reducible rfl))
                  (try simp only [Act.put, List.setIfInBounds_toArray, List.set_cons_zero, List.set_cons_succ])
                  refine' wpAnyH_take (i := 6) (oi := _) (v := _) ?hi6 ?hs6 ?hf6 ?hr6 ?hQ6 (Or.inl ⟨?hw6, ?hy6⟩) ?hS6 ?rest6
                  case hi6 => ((try simp only [List.getElem?_toArray, List.getElem?_cons_succ, List.getElem?_cons_zero]); rfl)
                  case hs6 => kernel_rfl
                  case hf6 => kernel_rfl
                  case hr6 => kernel_rfl
                  case hQ6 => exact fun _ _ _ h => h
                  case hw6 => rfl
                  case hS6 => assumption
                  case hy6 => (intro w hSw; (try dsimp only at hSw); go_simp; (try with_reducible rfl))
                  (try simp only [Act.put, List.setIfInBounds_toArray, List.set_cons_zero, List.set_cons_succ])
                  refine' wpAnyH_take (i := 7) (oi := _) (v := _) ?hi7 ?hs7 ?hf7 ?hr7 ?hQ7 (Or.inl ⟨?hw7, ?hy7⟩) ?hS7 ?rest7
                  case hi7 => ((try simp only [List.getElem?_toArray, List.getElem?_cons_succ, List.getElem?_cons_zero]); rfl)
                  case hs7 => kernel_rfl
                  case hf7 => kernel_rfl
                  case hr7 => kernel_rfl
                  case hQ7 => exact fun _ _ _ h => h
                  case hw7 => rfl
                  case hS7 => assumption
                  case hy7 => (intro w hSw; (try dsimp only at hSw); go_simp; (try with_reducible rfl))
                  (try simp only [Act.put, List.setIfInBounds_toArray, List.set_cons_zero, List.set_cons_succ])
                  refine' wpAnyH_take (i := 8) (oi := _) (v := _) ?hi8 ?hs8 ?hf8 ?hr8 ?hQ8 (Or.inl ⟨?hw8, ?hy8⟩) ?hS8 ?rest8
                  case hi8 => ((try simp only [List.getElem?_toArray, List.getElem?_cons_succ, List.getElem?_cons_zero]); rfl)
                  case hs8 => kernel_rfl
                  case hf8 => kernel_rfl
                  case hr8 => kernel_rfl
                  case hQ8 => exact fun _ _ _ h => h
                  case hw8 => rfl
                  case hS8 => assumption
                  case hy8 => (intro w hSw; (try dsimp only at hSw); go_simp; (try with_reducible rfl))
                  (try simp only [Act.put, List.setIfInBounds_toArray, List.set_cons_zero, List.set_cons_succ])
                  refine' wpAnyH_take (i := 9) (oi := _) (v := _) ?hi9 ?hs9 ?hf9 ?hr9 ?hQ9 (Or.inl ⟨?hw9, ?hy9⟩) ?hS9 ?rest9
                  case hi9 => ((try simp only [List.getElem?_toArray, List.getElem?_cons_succ, List.getElem?_cons_zero]); rfl)
                  case hs9 => kernel_rfl
                  case hf9 => kernel_rfl
                  case hr9 => kernel_rfl
                  case hQ9 => exact fun _ _ _ h => h
                  case hw9 => rfl
                  case hS9 => assumption
                  case hy9 => (intro w hSw; (try dsimp only at hSw); go_simp; (try with_reducible rfl))
                  (try simp only [Act.put, List.setIfInBounds_toArray, List.set_cons_zero, List.set_cons_succ])
                  refine' wpAnyH_take (i := 10) (oi := _) (v := _) ?hi10 ?hs10 ?hf10 ?hr10 ?hQ10 (Or.inl ⟨?hw10, ?hy10⟩) ?hS10 ?rest10
                  case hi10 => ((try simp only [List.getElem?_toArray, List.getElem?_cons_succ, List.getElem?_cons_zero]); rfl)
                  case hs10 => kernel_rfl
                  case hf10 => kernel_rfl
                  case hr10 => kernel_rfl
                  case hQ10 => exact fun _ _ _ h => h
                  case hw10 => rfl
                  case hS10 => assumption
                  case hy10 => (intro w hSw; (try dsimp only at hSw); go_simp; (try with_reducible rfl))
                  (try simp only [Act.put, List.setIfInBounds_toArray, List.set_cons_zero, List.set_cons_succ])
                  refine' wpAnyH_take (i := 11) (oi := _) (v := _) ?hi11 ?hs11 ?hf11 ?hr11 ?hQ11 (Or.inl ⟨?hw11, ?hy11⟩) ?hS11 ?rest11
                  case hi11 => ((try simp only [List.getElem?_toArray, List.getElem?_cons_succ, List.getElem?_cons_zero]); rfl)
                  case hs11 => kernel_rfl
                  case hf11 => kernel_rfl
                  case hr11 => kernel_rfl
                  case hQ11 => exact fun _ _ _ h => h
                  case hw11 => rfl
                  case hS11 => assumption
                  case hy11 => (intro w hSw; (try dsimp only at hSw); go_simp; (try with_reducible rfl))
                  (try simp only [Act.put, List.setIfInBounds_toArray, List.set_cons_zero, List.set_cons_succ])
                  refine' wpAnyH_take (i := 12) (oi := _) (v := _) ?hi12 ?hs12 ?hf12 ?hr12 ?hQ12 (Or.inl ⟨?hw12, ?hy12⟩) ?hS12 ?rest12
                  case hi12 => ((try simp only [List.getElem?_toArray, List.getElem?_cons_succ, List.getElem?_cons_zero]); rfl)
                  case hs12 => kernel_rfl
                  case hf12 => kernel_rfl
                  case hr12 => kernel_rfl
                  case hQ12 => exact fun _ _ _ h => h
                  case hw12 => rfl
                  case hS12 => assumption
                  case hy12 => (intro w hSw; (try dsimp only at hSw); go_simp; (try with_reducible rfl))
                  (try simp only [Act.put, List.setIfInBounds_toArray, List.set_cons_zero, List.set_cons_succ])
                  refine' wpAnyH_take (i := 13) (oi := _) (v := _) ?hi13 ?hs13 ?hf13 ?hr13 ?hQ13 (Or.inl ⟨?hw13, ?hy13⟩) ?hS13 ?rest13
                  case hi13 => ((try simp only [List.getElem?_toArray, List.getElem?_cons_succ, List.getElem?_cons_zero]); rfl)
                  case hs13 => kernel_rfl
                  case hf13 => kernel_rfl
                  case hr13 => kernel_rfl
                  case hQ13 => exact fun _ _ _ h => h
                  case hw13 => rfl
                  case hS13 => assumption
                  case hy13 => (intro w hSw; (try dsimp only at hSw); go_simp; (try with_reducible rfl))
                  (try simp only [Act.put, List.setIfInBounds_toArray, List.set_cons_zero, List.set_cons_succ])
                  refine' wpAnyH_take (i := 14) (oi := _) (v := _) ?hi14 ?hs14 ?hf14 ?hr14 ?hQ14 (Or.inl ⟨?hw14, ?hy14⟩) ?hS14 ?rest14
                  case hi14 => ((try simp only [List.getElem?_toArray, List.getElem?_cons_succ, List.getElem?_cons_zero]); rfl)
                  case hs14 => kernel_rfl
                  case hf14 => kernel_rfl
                  case hr14 => kernel_rfl
                  case hQ14 => exact fun _ _ _ h => h
                  case hw14 => rfl
                  case hS14 => assumption
                  case hy14 => (intro w hSw; (try dsimp only at hSw); go_simp; (try with_reducible rfl))
                  (try simp only [Act.put, List.setIfInBounds_toArray, List.set_cons_zero, List.set_cons_succ])
                  refine wpAnyH_ready (rs := [15]) (by kernel_rfl) (by simp) ?_
                  refine AllReadyH.cons rfl (fun K hK => ?_) AllReadyH.nil
                  go_simp
                  go_at_call 11
                  refine (HIN.out _ (keepGw (by assumption))).mono ?_
                  rintro e w' ⟨rfl, hb⟩
                  have cn6 := (hb.cell (p := ⟨gn, k, none⟩) hgn2).trans cn
                  have fn6 := (hb.frozen (p := ⟨gn, k, none⟩) hgn2).trans fn
                  have HBW2 : Hid (Below wp.heap.size wp w') := (Below.refl _ _).drew.trans hb
                  refine hK.out _ _ (keepGb hgn2 hgp2 hgp2 hgp2 hgt2 hgr2 hHeld hb) (fun hHeld2 => ?_)
                  clear hK K hHeld cn fn hS5 c0 c1 c2 cr1 hct hb
                  refine' wpAnyH_take (i := 16) (oi := _) (v := _) ?hi16 ?hs16 ?hf16 ?hr16 ?hQ16 (Or.inl ⟨?hw16, ?hy16⟩) ?hS16 ?rest16
                  case hi16 => ((try simp only [List.getElem?_toArray, List.getElem?_cons_succ, List.getElem?_cons_zero]); rfl)
                  case hs16 => kernel_rfl
                  case hf16 => kernel_rfl
                  case hr16 => kernel_rfl
                  case hQ16 => exact fun _ _ _ h => h
                  case hw16 => rfl
                  case hS16 => assumption
                  case hy16 => (intro w hSw; (try dsimp only at hSw); go_simp; (try with_reducible rfl))
                  (try simp only [Act.put, List.setIfInBounds_toArray, List.set_cons_zero, List.set_cons_succ])
                  refine' wpAnyH_take (i := 17) (oi := _) (v := _) ?hi17 ?hs17 ?hf17 ?hr17 ?hQ17 (Or.inl ⟨?hw17, ?hy17⟩) ?hS17 ?rest17
                  case hi17 => ((try simp only [List.getElem?_toArray, List.getElem?_cons_succ, List.getElem?_cons_zero]); rfl)
                  case hs17 => kernel_rfl
                  case hf17 => kernel_rfl
                  case hr17 => kernel_rfl
                  case hQ17 => exact fun _ _ _ h => h
                  case hw17 => rfl
                  case hS17 => assumption
                  case hy17 => (intro w hSw; (try dsimp only at hSw); go_simp; (try with_reducible rfl))
                  (try simp only [Act.put, List.setIfInBounds_toArray, List.set_cons_zero, List.set_cons_succ])
                  refine' wpAnyH_take (i := 18) (oi := _) (v := undef) ?hi18 ?hs18 ?hf18 ?hr18 ?hQ18 (Or.inr ⟨?hw18, rfl⟩) ?hS18 ?rest18
                  case hi18 => ((try simp only [List.getElem?_toArray, List.getElem?_cons_succ, List.getElem?_cons_zero]); rfl)
                  case hs18 => kernel_rfl
                  case hf18 => kernel_rfl
                  case hr18 => kernel_rfl
                  case hQ18 => exact fun _ _ _ h => h
                  case hw18 => rfl
                  case hS18 => assumption
                  (try simp only [Act.put, List.setIfInBounds_toArray, List.set_cons_zero, List.set_cons_succ])
                  refine' wpAnyH_take (i := 19) (oi := _) (v := undef) ?hi19 ?hs19 ?hf19 ?hr19 ?hQ19 (Or.inr ⟨?hw19, rfl⟩) ?hS19 ?rest19
                  case hi19 => ((try simp only [List.getElem?_toArray, List.getElem?_cons_succ, List.getElem?_cons_zero]); rfl)
                  case hs19 => kernel_rfl
                  case hf19 => kernel_rfl
                  case hr19 => kernel_rfl
                  case hQ19 => exact fun _ _ _ h => h
                  case hw19 => rfl
                  case hS19 => assumption
                  (try simp only [Act.put, List.setIfInBounds_toArray, List.set_cons_zero, List.set_cons_succ])
                  refine' wpAnyH_take (i := 20) (oi := _) (v := undef) ?hi20 ?hs20 ?hf20 ?hr20 ?hQ20 (Or.inr ⟨?hw20, rfl⟩) ?hS20 ?rest20
                  case hi20 => ((try simp only [List.getElem?_toArray, List.getElem?_cons_succ, List.getElem?_cons_zero]); rfl)
                  case hs20 => kernel_rfl
                  case hf20 => kernel_rfl
                  case hr20 => kernel_rfl
                  case hQ20 => exact fun _ _ _ h => h
                  case hw20 => rfl
                  case hS20 => assumption
                  (try simp only [Act.put, List.setIfInBounds_toArray, List.set_cons_zero, List.set_cons_succ])
                  refine' wpAnyH_take (i := 21) (oi := _) (v := undef) ?hi21 ?hs21 ?hf21 ?hr21 ?hQ21 (Or.inr ⟨?hw21, rfl⟩) ?hS21 ?rest21
                  case hi21 => ((try simp only [List.getElem?_toArray, List.getElem?_cons_succ, List.getElem?_cons_zero]); rfl)
                  case hs21 => kernel_rfl
                  case hf21 => kernel_rfl
                  case hr21 => kernel_rfl
                  case hQ21 => exact fun _ _ _ h => h
                  case hw21 => rfl
                  case hS21 => assumption
                  (try simp only [Act.put, List.setIfInBounds_toArray, List.set_cons_zero, List.set_cons_succ])
                  refine' wpAnyH_take (i := 22) (oi := _) (v := undef) ?hi22 ?hs22 ?hf22 ?hr22 ?hQ22 (Or.inr ⟨?hw22, rfl⟩) ?hS22 ?rest22
                  case hi22 => ((try simp only [List.getElem?_toArray, List.getElem?_cons_succ, List.getElem?_cons_zero]); rfl)
                  case hs22 => kernel_rfl
                  case hf22 => kernel_rfl
                  case hr22 => kernel_rfl
                  case hQ22 => exact fun _ _ _ h => h
                  case hw22 => rfl
                  case hS22 => assumption
                  (try simp only [Act.put, List.setIfInBounds_toArray, List.set_cons_zero, List.set_cons_succ])
                  refine' wpAnyH_take (i := 23) (oi := _) (v := _) ?hi23 ?hs23 ?hf23 ?hr23 ?hQ23 (Or.inl ⟨?hw23, ?hy23⟩) ?hS23 ?rest23
                  case hi23 => ((try simp only [List.getElem?_toArray, List.getElem?_cons_succ, List.getElem?_cons_zero]); rfl)
                  case hs23 => kernel_rfl
                  case hf23 => kernel_rfl
                  case hr23 => kernel_rfl
                  case hQ23 => exact fun _ _ _ h => h
                  case hw23 => rfl
                  case hS23 => assumption
                  case hy23 => (intro w hSw; (try dsimp only at hSw); go_simp; (try with_reducible rfl))
                  (try simp only [Act.put, List.setIfInBounds_toArray, List.set_cons_zero, List.set_cons_succ])
                  refine' wpAnyH_take (i := 24) (oi := _) (v := _) ?hi24 ?hs24 ?hf24 ?hr24 ?hQ24 (Or.inl ⟨?hw24, ?hy24⟩) ?hS24 ?rest24
                  case hi24 => ((try simp only [List.getElem?_toArray, List.getElem?_cons_succ, List.getElem?_cons_zero]); rfl)
                  case hs24 => kernel_rfl
                  case hf24 => kernel_rfl
                  case hr24 => kernel_rfl
                  case hQ24 => exact fun _ _ _ h => h
                  case hw24 => rfl
                  case hS24 => assumption
                  case hy24 => (intro w hSw; (try dsimp only at hSw); go_simp; (try with_reducible rfl))
                  (try simp only [Act.put, List.setIfInBounds_toArray, List.set_cons_zero, List.set_cons_succ])
                  refine wpAnyH_ready (rs := [25]) (by kernel_rfl) (by simp) ?_
                  refine AllReadyH.cons rfl (fun K hK => ?_) AllReadyH.nil
                  go_simp
                  refine hK.out _ _ (keepGs hgp3 hgp3 hgp3 hgt3 hgr3 hHeld2) (fun hHeld3 => ?_)
                  clear hK K hHeld2 hHeld3
                  refine wpAnyH_done (by kernel_rfl) ?_ _
                  refine NoPanic.normal ?_
                  go_wp2
                  go_roundw
                  case rel => exact ⟨k, (k : Int) - 1, (by first | rfl | exact val_int hwk), rfl, by omega, (HJ.out.go HBW2.out).put _ HV.out⟩
                  case measure => (simp [intOf]; try omega)
              · have hkc : ¬ (k : Int) < (T : Int) := by omega
                have HV : Hid (mt (pcs.drop i) (t.drop k) = false) := mt_row_off HPC2.out rfl (by have := HTL.out; omega)
                have HB0 := Lib.hid hB0
                clear hB0 hsS hsp I0 HQ cr
                go_wp2
                go_region
                go_wp2
                go_roundw
                case rel => exact ⟨k, (k : Int) - 1, (by first | rfl | exact val_int hwk), rfl, by omega, (HJ.out.put _ HV.out).go ((Below.refl _ _).drew)⟩
                case measure => (simp [intOf]; try omega)
end Go.Proofs.YtgidfmdbaimcnaaDoor
