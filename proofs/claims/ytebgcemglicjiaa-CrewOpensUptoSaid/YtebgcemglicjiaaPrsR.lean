/- linenref.marks, walked. -/
import Derived.Test.YtebgcemglicjiaaPrsM
import Derived.Test.YtebgcemglicjiaaPrJa
import Derived.Test.YtebgcemglicjiaaCdrW
import Derived.Test.YtebgcemglicjiaaNumberW
import Derived.Test.YtebgcemglicjiaaOwJa
namespace Go.Proofs.Ytebgcemglicjiaa
open Go.RowKit Go.PlainAid

theorem WRow.past {b M : Nat} {w w' : World} {l : List Int} {k : Nat} (h : WRow b w l k) (hM : M < b) (hg : w.grownBy w' (some M)) : WRow b w' l k := by
  obtain ⟨hz, cs, h1, h2, h3⟩ := h
  refine ⟨Nat.le_trans hz hg.size, cs, (hg.block b (by omega) (fun e => by injection e with e; omega)).trans h1, h2, fun i hi => ?_⟩
  obtain ⟨v, hv, ho⟩ := h3 i hi
  exact ⟨v, hv, ho.kept (fun g hg2 => hg.block g (ho.lt g hg2).2 (fun e => by injection e with e; have := (ho.lt g hg2).1; omega)) hg.size⟩
def BkV (N : Nat) (v : Value) (w : World) (l : List Int) : Prop := ∃ b, v = .slice (some ⟨b, 0, none⟩) l.length l.length ∧ N + 2 ≤ b ∧ WRow b w l l.length
theorem BkV.keep {N : Nat} {v : Value} {w w' : World} {l : List Int} (h : BkV N v w l) (hb : Below w.heap.size w w') : BkV N v w' l := by
  obtain ⟨b, e, h1, h2⟩ := h; exact ⟨b, e, h1, h2.keep hb⟩
theorem BkV.past {N : Nat} {v : Value} {w w' : World} {l : List Int} (h : BkV N v w l) (hg : w.grownBy w' (some N)) : BkV N v w' l := by
  obtain ⟨b, e, h1, h2⟩ := h; exact ⟨b, e, h1, h2.past (by omega) hg⟩
/-- The two books, so far. -/
structure BkS (s s2 s3 : ByteArray) (W wr : World) (i : Nat) (t : ByteArray) : Prop where
  sz : W.heap.size + 2 ≤ wr.heap.size
  bel : Below W.heap.size W wr
  wants : wr.heap[W.heap.size + 1]? = some (.cells #[.int .i64 320, .int .i64 9] 3 (0, 0))
  ts : t.size ≤ 1048575
  st : ∃ v0 v1, wr.heap[W.heap.size]? = some (.cells #[v0, v1] 62 (0, 0)) ∧ ((i = 0 ∧ t = s) ∨ (i = 1 ∧ lnOk s 320 ∧ t = s2 ∧ BkV W.heap.size v0 wr (rrX s)) ∨ (i = 2 ∧ lnOk s 320 ∧ lnOk s2 9 ∧ t = s3 ∧ BkV W.heap.size v0 wr (rrX s) ∧ BkV W.heap.size v1 wr (rrX s2)))
theorem BkS.step {s s2 s3 t : ByteArray} {W wr : World} {i m : Nat} (h : BkS s s2 s3 W wr i t) (hi : i < 2) (e2 : s2 = cutB s (rrAt s).toNat) (e3 : s3 = cutB s2 (rrAt s2).toNat) :
    ∃ (want : Nat) (u : Value), want ≤ 320 ∧ wr.cell? ⟨W.heap.size + 1, i, none⟩ = some (.int .i64 want) ∧ wr.cell? ⟨W.heap.size, i, none⟩ = some u ∧ wr.frozen? ⟨W.heap.size, i, none⟩ = false ∧ W.heap.size < wr.heap.size ∧ (¬ lnOk t want → marksR s m = none) ∧ (lnOk t want → ∀ (b : Nat) (w5 : World), Below wr.heap.size wr w5 → wr.heap.size ≤ b → WRow b w5 (rrX t) (rrX t).length → BkS s s2 s3 W (w5.setCell ⟨W.heap.size, i, none⟩ (.slice (some ⟨b, 0, none⟩) (rrX t).length (rrX t).length)) (i + 1) (cutB t (rrAt t).toNat)) := by
  obtain ⟨v0, v1, hr, hc⟩ := h.st
  have hsz := h.sz
  have hbel := h.bel
  have key : ∀ (b : Nat) (w5 : World), Below wr.heap.size wr w5 → ∀ u : Value, W.heap.size + 2 ≤ (w5.setCell ⟨W.heap.size, i, none⟩ u).heap.size ∧ Below W.heap.size W (w5.setCell ⟨W.heap.size, i, none⟩ u) ∧ (w5.setCell ⟨W.heap.size, i, none⟩ u).heap[W.heap.size + 1]? = some (.cells #[.int .i64 320, .int .i64 9] 3 (0, 0)) ∧ (cutB t (rrAt t).toNat).size ≤ 1048575 ∧ (w5.setCell ⟨W.heap.size, i, none⟩ u).heap[W.heap.size]? = some (.cells ((#[v0, v1] : Array Value).setIfInBounds i u) 62 (0, 0)) := by
    intro b w5 hb u
    have h1 := hb.size
    refine ⟨by simp [World.setCell]; omega, (hbel.trans (hb.mono (by omega))).setCell (Nat.le_refl _) _, ?_, Nat.le_trans (cutB_size _ _) h.ts, ?_⟩
    · rw [heap_setCell_other _ _ _ _ (show W.heap.size + 1 ≠ W.heap.size by omega), hb.block _ (by omega)]; exact h.wants
    · exact row_store (row_below hr (by omega) hb)
  rcases hc with ⟨rfl, rfl⟩ | ⟨rfl, hl, rfl, hv⟩ | ⟨rfl, _⟩
  · refine ⟨320, v0, by omega, row_cell h.wants 0, row_cell hr 0, row_cold hr 0, by omega, fun hn => marksR_1 hn, fun hy b w5 hb hbb hw => ?_⟩
    obtain ⟨k1, k2, k3, k4, k5⟩ := key b w5 hb (.slice (some ⟨b, 0, none⟩) (rrX t).length (rrX t).length)
    exact ⟨k1, k2, k3, k4, _, v1, k5, .inr (.inl ⟨rfl, hy, e2.symm, b, rfl, by omega, hw.past (by omega) grown_set⟩)⟩
  · refine ⟨9, v1, by omega, row_cell h.wants 1, row_cell hr 1, row_cold hr 1, by omega, fun hn => marksR_2 hl e2 hn, fun hy b w5 hb hbb hw => ?_⟩
    obtain ⟨k1, k2, k3, k4, k5⟩ := key b w5 hb (.slice (some ⟨b, 0, none⟩) (rrX t).length (rrX t).length)
    exact ⟨k1, k2, k3, k4, v0, _, k5, .inr (.inr ⟨rfl, hl, hy, e3.symm, (hv.keep hb).past grown_set, b, rfl, by omega, hw.past (by omega) grown_set⟩)⟩
  · omega
/-- What the reference's marks answers. -/
def RmPost (s : ByteArray) (m : Nat) (W : World) (e : Ending) (w' : World) : Prop := ∃ (A : Option Addr) (n c : Nat) (ok : Bool) (L : List Mark), e = .returned (.tuple #[.slice A n c, .bool ok]) ∧ RowsIn w' w'.heap.size A n c Mark.cells 3 L ∧ (∀ z ∈ L, Mark.ok z) ∧ L.length ≤ 512 ∧ Below W.heap.size W w' ∧ ((ok = false ∧ marksR s m = none) ∨ (ok = true ∧ marksR s m = some L))
theorem rmPost_no {s : ByteArray} {m : Nat} {W w' : World} (h : marksR s m = none) (hb : Below W.heap.size W w') : RmPost s m W (.returned (.tuple #[.slice none 0 0, .bool false])) w' := ⟨none, 0, 0, false, [], rfl, no_marks _, fun z hz => by simp at hz, by simp, hb, .inl ⟨rfl, h⟩⟩

theorem b_in {M2 C2 k2 y a1 a2 n : Nat} (h : decide (M2 < k2 + y) = false) (hl : M2 ≤ C2) (_hk2 : a2 = a1 + k2) (hb : a2 ≤ 8 * n) (hn : n ≤ 1048575) : k2 ≤ M2 ∧ k2 ≤ C2 ∧ k2 + y ≤ C2 ∧ (k2 : Int) ≤ (k2 : Int) + (y : Int) ∧ (k2 : Int) + (y : Int) ≤ (C2 : Int) ∧ (k2 : Int) + (y : Int) ≤ (M2 : Int) ∧ (k2 : Int) ≤ 8388600 := by
  have h := of_decide_eq_false h
  exact ⟨by omega, by omega, by omega, by omega, by omega, by omega, by omega⟩
theorem far_yes {n a1 a2 k2 M2 y : Nat} (hM : M2 = 8 * n - a1) (hk2 : a2 = a1 + k2) (_ha1 : a1 ≤ 8 * n) (hf : 8 * n < a2 + y) : decide ((M2 : Int) < (k2 : Int) + (y : Int)) = true ∧ decide (M2 < k2 + y) = true := ⟨decide_eq_true (by omega), decide_eq_true (by omega)⟩
theorem far_not {n a1 a2 k2 M2 y : Nat} (hM : M2 = 8 * n - a1) (hk2 : a2 = a1 + k2) (_ha1 : a1 ≤ 8 * n) (hf : ¬ 8 * n < a2 + y) : decide ((M2 : Int) < (k2 : Int) + (y : Int)) = false ∧ decide (M2 < k2 + y) = false := ⟨decide_eq_false (by omega), decide_eq_false (by omega)⟩
theorem not_far {n a1 a2 k2 M2 y : Nat} (hM : M2 = 8 * n - a1) (_ : a2 = a1 + k2) (h : decide (M2 < k2 + y) = false) : k2 + y ≤ M2 := by have h := of_decide_eq_false h; omega
theorem suf_bits2 {t : ByteArray} {w6 : World} {A : Option Addr} {M c a a1 k : Nat} (r : RowsIn w6 w6.heap.size A M c (fun z => [.int .i64 z]) 1 ((tbL t).drop a)) (hk : a1 = a + k) (_h1 : a1 ≤ 8 * t.size) (y : Nat) (hy : k + y ≤ M) : ∃ A3 C3, (if c = k then A else A.map (fun x => x.add k)) = A3 ∧ c - k = C3 ∧ RowsIn w6 w6.heap.size A3 y C3 (fun z => [.int .i64 z]) 1 (((tbL t).drop a1).take y) := by
  have hl := r.len
  rw [List.length_drop, tbL_length] at hl
  have hkM : k ≤ M := by omega
  have h2 := r.suf_opt hkM
  rw [List.drop_drop, ← hk] at h2
  exact ⟨_, _, rfl, rfl, h2.pre (by omega)⟩
theorem horn_zero : ∀ {l : List Int}, (∀ x ∈ l, 0 ≤ x ∧ x ≤ 1) → (horn l = 0 ↔ ∀ x ∈ l, x = 0)
  | [], _ => by simp [horn]
  | x :: r, h => by
    have hx := h x (by simp)
    have ih := horn_zero (l := r) (fun y hy => h y (by simp [hy]))
    have hb := horn_bd r (fun y hy => h y (by simp [hy]))
    simp only [horn, List.mem_cons, forall_eq_or_imp]
    rw [← ih]; omega
theorem fin_iff {t : ByteArray} {a : Nat} (ha : a ≤ 8 * t.size) : finOk t a ↔ 8 * t.size - a < 8 ∧ ∀ x ∈ (tbL t).drop a, x = 0 := by
  unfold finOk
  have h1 := horn_cut t a (8 * t.size - a) (by omega)
  rw [List.take_of_length_le (by rw [List.length_drop, tbL_length]; omega)] at h1
  rw [← h1, horn_zero (fun x hx => tbL_bit t x (List.mem_of_mem_drop hx))]
theorem sg_hit' {l : List Int} {s : ByteArray} {a x k : Nat} {w w' : World} {e : Ending} (h : SgPost l s a w e w') (ho : one l s a = ((x : Int), (k : Int), 0)) : ∃ q k' : Nat, w' = w.drewN q ∧ e = .returned (.tuple #[.int .i64 x, .int .i64 k', .int .i64 0]) ∧ k = a + k' := sg_hit h ho
/-- The bits behind a sign. -/
theorem suf_bits {t : ByteArray} {w6 : World} {A : Option Addr} {M c a a1 k : Nat} (r : RowsIn w6 w6.heap.size A M c (fun z => [.int .i64 z]) 1 ((tbL t).drop a)) (hk : a1 = a + k) (h1 : a1 ≤ 8 * t.size) : k ≤ M ∧ k ≤ c ∧ RowsIn w6 w6.heap.size (if c = k then A else A.map (fun x => x.add k)) (M - k) (c - k) (fun z => [.int .i64 z]) 1 ((tbL t).drop a1) ∧ M - k = 8 * t.size - a1 := by
  have hl := r.len
  rw [List.length_drop, tbL_length] at hl
  have hle := r.le
  have hkM : k ≤ M := by omega
  refine ⟨hkM, by omega, ?_, by omega⟩
  have := r.suf_opt hkM
  rw [List.drop_drop, ← hk] at this; exact this

set_option maxRecDepth 20000 in
set_option maxHeartbeats 2000000 in
theorem rmr_any (s s2 s3 : ByteArray) (m : Nat) (W : World) (hs : s.size ≤ 1048575) (e2 : s2 = cutB s (rrAt s).toNat) (e3 : s3 = cutB s2 (rrAt s2).toNat) (hm : m ≤ 512) :
    Calls Try.prog 11 #[.string s, .int .i64 m] W (RmPost s m W) := by
  have HST := Lib.hid (fun (wr : World) (i : Nat) (t : ByteArray) (h : BkS s s2 s3 W wr i t) (hi : i < 2) => h.step (m := m) hi e2 e3)
  have HNO := Lib.hid (fun (h : marksR s m = none) (w' : World) hb => rmPost_no (s := s) (m := m) (W := W) (w' := w') h hb)
  have HR : Hid (∀ (t : ByteArray) V, t.size ≤ 1048575 → Calls Try.prog 21 #[.string t] V fun e w' => ∃ A q c, e = .returned (.tuple #[.slice A q c, .int .i64 (rrAt t), .int .i64 (rrE t)]) ∧ RowsIn w' w'.heap.size A q c (fun z => [.int .i64 z]) 1 (rrX t) ∧ Below V.heap.size V w') := fun t V ht => rreadr_any t V (by omega)
  have HC : Hid (∀ (t : ByteArray) (A : Option Addr) (n c : Nat) (V : World), RowsIn V V.heap.size A n c (fun z => [.int .i64 z]) 1 (rrX t) → Calls Try.prog 22 #[.slice A n c] V fun e w' => ∃ A q c, e = .returned (.tuple #[.slice A q c, .int .i64 (canE (rrX t))]) ∧ Below V.heap.size V w') := fun t A n c V r => (canonr_any A n c (rrX t) V r).mono (by rintro e w' ⟨A', q, c', h1, _, h2⟩; exact ⟨A', q, c', h1, h2⟩)
  have HS0 : Hid (BkS s s2 s3 W ((W.alloc (.cells #[.slice none 0 0, .slice none 0 0] 62)).alloc (.cells #[.int .i64 320, .int .i64 9] 3)) 0 s) :=
    ⟨by simp, ((Below.refl _ _).alloc (Nat.le_refl _) _).alloc (by simp) _, by have := heap_alloc_new (W.alloc (.cells #[.slice none 0 0, .slice none 0 0] 62)) (.cells #[.int .i64 320, .int .i64 9] 3); simpa using this, hs, _, _, (heap_alloc_old _ _ (by simp)).trans (heap_alloc_new W _), .inl ⟨rfl, rfl⟩⟩
  go_enter Try.func11, Try.ntmps11
  go_wp2
  go_loopw [0, 7, 8, 9, 10, 11, 12, 13, 24] (fun v0 _ _ _ _ _ _ _ v24 wr => ∃ (i : Nat) (t : ByteArray), i ≤ 2 ∧ v24 = .int .i64 i ∧ v0 = .string t ∧ Hid (BkS s s2 s3 W wr i t)) (fun _ _ _ _ _ _ _ _ v24 _ => 2 - (intOf v24).toNat)
  case atStart => exact ⟨0, s, by omega, rfl, rfl, HS0.out⟩
  case round =>
    obtain ⟨i, t, hi, rfl, rfl, HB⟩ := hrel
    obtain ⟨w1, rfl⟩ : ∃ z : World, z = wr := ⟨_, rfl⟩
    clear HS0
    by_cases hlt : i < 2
    · obtain ⟨want, u, hw320, cw, cu, fu, hN0, hno, hyes⟩ := HST.out w1 i t HB.out hlt
      have HRR := Lib.hid (HR.out t w1 HB.out.ts)
      have HCC := Lib.hid (HC.out t)
      have i1 : (i : Int) < 2 := by omega
      have HBW := Lib.hid HB.out.bel
      have HNW := Lib.hid (fun (hn : ¬ lnOk t want) (w' : World) (hb : Below w1.heap.size w1 w') => HNO.out (hno hn) w' (HB.out.bel.trans (hb.mono HB.out.bel.size)))
      by_cases hE : rrE t = 0
      · by_cases hX : (rrX t).length = want
        · by_cases hCN : canE (rrX t) = 0
          · have hat := rrAt_bd hE
            have HY := Lib.hid (hyes ⟨hE, hX, hCN⟩)
            have HWD : Hid (∀ (A : Option Addr) (n c : Nat) (V : World), RowsIn V V.heap.size A n c (fun z => [.int .i64 z]) 1 (rrX t) → Calls Try.prog 23 #[.slice A n c] V (WPost (rrX t) V)) := fun A n c V r => wrd_any A n c (rrX t) V r hCN
            have d0 : (rrE t != 0) = false := by rw [hE]; rfl
            have d1 : (((rrX t).length : Int) != (want : Int)) = false := by rw [bne_eq_false_iff_eq]; omega
            have d2 : (canE (rrX t) != 0) = false := by rw [hCN]; rfl
            obtain ⟨k, hk⟩ := Int.eq_ofNat_of_zero_le hat.1
            rw [hk] at HRR HY hat
            rw [Int.toNat_natCast] at HY
            have hk2 : k ≤ t.size := by omega
            unfold WPost at HWD
            clear hno hyes HNW hE hX hCN hk hat
            generalize canE (rrX t) = Z at *
            generalize rrX t = X at *
            generalize rrE t = E at *
            go_wp2_with (first
              | (go_at_call 21; refine HRR.out.mono ?_; rintro e w2 ⟨A1, n1, c1, rfl, r1, hb1⟩; obtain rfl := r1.len; have R1 := Lib.hid r1; have HB2 := Lib.hid hb1; clear r1 hb1)
              | (go_at_call 22; refine (HCC.out _ _ _ _ R1.out).mono ?_; rintro e w3 ⟨A2, n2, c2, rfl, hb2⟩; have HB3 := Lib.hid (HB2.out.trans (hb2.mono HB2.out.size)); have R3 := Lib.hid ((R1.out.below hb2).more hb2.size); clear hb2)
              | (go_at_call 23; refine (HWD.out _ _ _ _ R3.out).mono ?_; rintro e w4 ⟨bw, rfl, hbw, hWR, hb4⟩; have HB4 := Lib.hid (HB3.out.trans (hb4.mono HB3.out.size)); have cu4 := (HB4.out.cell (p := ⟨W.heap.size, i, none⟩) hN0).trans cu; have fu4 := (HB4.out.frozen (p := ⟨W.heap.size, i, none⟩) hN0).trans fu; have HN := Lib.hid (HY.out bw w4 HB4.out (Nat.le_trans HB3.out.size hbw) hWR); clear hWR hb4 hbw))
            go_roundw
            case rel => exact ⟨i + 1, _, by omega, by go_num, rfl, HN.out⟩
            case measure => (simp [intOf]; try omega)
          · have HP := Lib.hid (HNW.out (fun h => hCN h.2.2))
            have d0 : (rrE t != 0) = false := by rw [hE]; rfl
            have d1 : (((rrX t).length : Int) != (want : Int)) = false := by rw [bne_eq_false_iff_eq]; omega
            have d2 : (canE (rrX t) != 0) = true := by simpa using hCN
            clear hno hyes HNW hE hX hCN
            generalize canE (rrX t) = Z at *
            generalize rrE t = E at *
            generalize rrX t = X at *
            generalize rrAt t = K at *
            go_wp2_with (first
              | (go_at_call 21; refine HRR.out.mono ?_; rintro e w2 ⟨A1, n1, c1, rfl, r1, hb1⟩; obtain rfl := r1.len; have R1 := Lib.hid r1; have HB2 := Lib.hid hb1; clear r1 hb1)
              | (go_at_call 22; refine (HCC.out _ _ _ _ R1.out).mono ?_; rintro e w3 ⟨A2, n2, c2, rfl, hb2⟩; have HB3 := Lib.hid (HB2.out.trans (hb2.mono HB2.out.size)); clear hb2))
            go_ret2
            exact HP.out _ HB3.out
        · have HP := Lib.hid (HNW.out (fun h => hX h.2.1))
          have d0 : (rrE t != 0) = false := by rw [hE]; rfl
          have d1 : (((rrX t).length : Int) != (want : Int)) = true := by rw [bne_iff_ne]; omega
          clear hno hyes HNW hE hX
          generalize rrE t = E at *
          generalize rrX t = X at *
          generalize rrAt t = K at *
          go_wp2_with (go_at_call 21; refine HRR.out.mono ?_; rintro e w2 ⟨A1, n1, c1, rfl, r1, hb1⟩; obtain rfl := r1.len; have HB2 := Lib.hid hb1; clear r1 hb1)
          go_ret2
          exact HP.out _ HB2.out
      · have HP := Lib.hid (HNW.out (fun h => hE h.1))
        have d0 : (rrE t != 0) = true := by simpa using hE
        clear hno hyes HNW hE
        generalize rrE t = E at *
        generalize rrX t = X at *
        generalize rrAt t = K at *
        go_wp2_with (go_at_call 21; refine HRR.out.mono ?_; rintro e w2 ⟨A1, n1, c1, rfl, r1, hb1⟩; have HB2 := Lib.hid hb1; clear r1 hb1)
        go_ret2
        exact HP.out _ HB2.out
    · obtain rfl : i = 2 := by omega
      have i1 : ¬ ((2 : Nat) : Int) < 2 := by omega
      obtain ⟨v0, v1, hrow, hst⟩ := HB.out.st
      obtain ⟨hl1, hl2, rfl, hv0, hv1⟩ : lnOk s 320 ∧ lnOk s2 9 ∧ t = s3 ∧ BkV W.heap.size v0 w1 (rrX s) ∧ BkV W.heap.size v1 w1 (rrX s2) := by
        rcases hst with ⟨h, _⟩ | ⟨h, _⟩ | ⟨_, h⟩
        · omega
        · omega
        · exact h
      obtain ⟨b0, rfl, hb0, hw0⟩ := hv0
      obtain ⟨b1, rfl, hb1, hw1⟩ := hv1
      have hs3 := HB.out.ts
      have HBITS := Lib.hid (bitsr_any t w1 hs3)
      have HNO3 := Lib.hid (fun (h3 : mkR (rrX s) (rrX s2) t m 0 [] = none) (w' : World) hb => HNO.out (marksR_3 hl1 e2 hl2 e3 h3) w' hb)
      have HEND : Hid (∀ (L : List Mark) (a : Nat) (A : Option Addr) (c : Nat) (ok : Bool) (w' : World), mkR (rrX s) (rrX s2) t m 0 [] = some (L, a) → L.length = m → (ok = false ∧ ¬ finOk t a ∨ ok = true ∧ finOk t a) → RowsIn w' w'.heap.size A L.length c Mark.cells 3 L → Below W.heap.size W w' → (∀ z ∈ L, Mark.ok z) → RmPost s m W (.returned (.tuple #[.slice A L.length c, .bool ok])) w') := fun L a A c ok w' q1 q2 q3 q4 q5 q6 => ⟨A, L.length, c, ok, L, rfl, q4, q6, by omega, q5, q3.imp (fun q => ⟨q.1, marksR_4 hl1 e2 hl2 e3 q1 q.2⟩) (fun q => ⟨q.1, marksR_5 hl1 e2 hl2 e3 q1 q.2⟩)⟩
      have HENDN : Hid (∀ (L : List Mark) (a : Nat) (w' : World), mkR (rrX s) (rrX s2) t m 0 [] = some (L, a) → ¬ finOk t a → Below W.heap.size W w' → RmPost s m W (.returned (.tuple #[.slice none 0 0, .bool false])) w') := fun L a w' q1 q2 q3 => rmPost_no (marksR_4 hl1 e2 hl2 e3 q1 q2) q3
      have HC1 := Lib.hid hl1.2.2
      have HC2 := Lib.hid hl2.2.2
      have HX1 := Lib.hid hl1.2.1
      have HX2 := Lib.hid hl2.2.1
      have HBW := Lib.hid HB.out.bel
      have HW0 := Lib.hid hw0
      have HW1 := Lib.hid hw1
      have HROW := Lib.hid hrow
      have hN0 : W.heap.size < w1.heap.size := by have := HB.out.sz; omega
      clear hst hl1 hl2 hw0 hw1 hrow e2 e3 HST HNO HR HC HB hb0 hb1 hlt
      generalize RmPost s m W = PP at *
      generalize rrX s = X at *
      generalize rrX s2 = X2 at *
      go_wp2_with (go_at_call 24; refine HBITS.out.mono ?_; rintro e w2 ⟨AB, cB, rfl, rB, hbb⟩; have RB := Lib.hid rB; have HB2 := Lib.hid hbb; clear rB hbb)
      have HBA := Lib.hid (HBW.out.trans (HB2.out.mono HBW.out.size))
      have c00 : w2.cell? ⟨W.heap.size, 0, none⟩ = some (.slice (some ⟨b0, 0, none⟩) X.length X.length) := row_cell (row_below HROW.out hN0 HB2.out) 0
      have c01 : w2.cell? ⟨W.heap.size, 1, none⟩ = some (.slice (some ⟨b1, 0, none⟩) X2.length X2.length) := row_cell (row_below HROW.out hN0 HB2.out) 1
      have HC0 := Lib.hid c00
      have HC01 := Lib.hid c01
      have hN2 : W.heap.size < w2.heap.size := Nat.lt_of_lt_of_le hN0 HB2.out.size
      have HWA := Lib.hid (HW0.out.keep HB2.out)
      have HWB := Lib.hid (HW1.out.keep HB2.out)
      clear c00 c01 hN0 HROW HB2 HBW HW0 HW1
      go_loopw [14, 15, 16, 17, 18, 19, 61] (fun v14 v15 _ _ _ _ v61 wr => ∃ (k a : Nat) (A : Option Addr) (c : Nat) (L : List Mark) (AR : Option Addr) (M cR : Nat), k ≤ m ∧ v14 = .slice AR M cR ∧ v15 = .slice A L.length c ∧ v61 = .int .i64 k ∧ Hid (MkJ X X2 t m k a L) ∧ Hid (RowsIn w2 w2.heap.size AR M cR (fun z => [.int .i64 z]) 1 ((tbL t).drop a)) ∧ Hid (Owns wr w2.heap.size 3 (.slice A L.length c) L.length (L.flatMap Mark.cells)) ∧ Hid (Below w2.heap.size w2 wr)) (fun _ _ _ _ _ _ v61 _ => m - (intOf v61).toNat)
      case atStart => exact ⟨0, 0, none, 0, [], AB, 8 * t.size, cB, Nat.zero_le _, rfl, rfl, rfl, MkJ.start _ _ _ _, RB.out, Owns.nil _ _ _, Below.refl _ _⟩
      case round =>
        clear RB
        obtain ⟨k, a, A, c, L, AR, M, cR, hk, rfl, rfl, rfl, HJ, HRB, HOW, HB⟩ := hrel
        obtain ⟨w5, rfl⟩ : ∃ z : World, z = wr := ⟨_, rfl⟩
        have hle := HJ.out.le
        by_cases hlt2 : k < m
        · have i2 : (k : Int) < (m : Int) := by omega
          have c0 := (HB.out.cell (p := ⟨W.heap.size, 0, none⟩) hN2).trans HC0.out
          have HSG := Lib.hid (sg_any X t a b0 AR cR M w5 (HWA.out.keep HB.out) ((HRB.out.below HB.out).more HB.out.size) HC1.out hle)
          rcases one_ok X t a hle with ⟨x, a1, he, hx, ha0, ha1⟩ | he | he
          · have hlen := HJ.out.len
            have G3 : Hid (L.length + 1 ≤ maxLen ∧ (L.length + 1) * 24 ≤ 140737488355328) := by unfold maxLen Hid; omega
            have G4 : Hid (0 < 3) := by simp [Hid]
            have HE1 := Lib.hid he
            by_cases hx256 : x < 256
            · have HJ2 := Lib.hid (HJ.out.byte hlt2 he hx256 ha1)
              have G2 : Hid (∀ u ∈ (#[.int .i64 0, .int .i64 0, .int .u8 (x : Int)] : Array Value).toList, u.oneCell' = true) := by simp [Hid, Value.oneCell']
              have i3 : (x : Int) < 256 := by omega
              have p1 : IntKind.u8.wrap (x : Int) = (x : Int) := by rw [IntKind.wrap_u8]; omega
              have HMA := Lib.hid (mark_app (L := L) (m := ⟨0, 0, x⟩))
              clear he hlen
              go_wp2_with (first
                | (at_builtin; refine wpList_add1 (size := 3) (bytes := 24) (base := w2.heap.size) (news := #[.int .i64 0, .int .i64 0, .int .u8 (x : Int)]) rfl rfl Try.underlying39 info_markP rfl G4.out HO6.out rfl HB6.out.size rfl rfl rfl G2.out G3.out.1 G3.out.2 ?_; intro A3 c3 w7 hown7 hl7 hn7; have HO7 := Lib.hid hown7; have HB7 := Lib.hid (hl7.below (Nat.le_refl _) HB6.out); clear hown7 hl7 hn7)
                | (go_at_call 25; refine HSG.out.mono ?_; rintro e w6 hP; obtain ⟨q, k', hw6, rfl, hk'⟩ := sg_hit' hP HE1.out; have HB6 := Lib.hid (drewn_below hw6 HB.out); have HO6 := Lib.hid (drewn_own hw6 HOW.out); obtain ⟨j1, j2, hs6, hMM⟩ := suf_bits HRB.out hk' ha1; obtain ⟨A2, hA2⟩ : ∃ z, (if cR = k' then AR else Option.map (fun x => x.add k') AR) = z := ⟨_, rfl⟩; obtain ⟨M2, hM2⟩ : ∃ z, M - k' = z := ⟨_, rfl⟩; obtain ⟨C2, hC2⟩ : ∃ z, cR - k' = z := ⟨_, rfl⟩; rw [hA2, hM2, hC2] at hs6; rw [hM2] at hMM; have HSUF := Lib.hid hs6; have j3 : (k' : Int) ≤ (M : Int) := Int.ofNat_le.2 j1; have j4 : (k' : Int) ≤ (cR : Int) := Int.ofNat_le.2 j2; clear hP hs6 hMM hw6 hk'))
              all_goals
                go_roundw
                case rel => exact ⟨k + 1, a1, A3, c3, _, _, _, _, by omega, rfl, by rw [List.length_append]; rfl, by go_num, HJ2.out, HSUF.out, by rw [← HMA.out, List.length_append]; exact HO7.out, HB7.out⟩
                case measure => (simp [intOf]; try omega)
            · have i3 : ¬ (x : Int) < 256 := by omega
              have HSG2 : Hid (∀ (A : Option Addr) (n c : Nat) (V : World), Below w2.heap.size w2 V → RowsIn w2 w2.heap.size A n c (fun z => [.int .i64 z]) 1 ((tbL t).drop a1) → Calls Try.prog 25 #[.slice (some ⟨b1, 0, none⟩) X2.length X2.length, .slice A n c] V (SgPost X2 t a1 V)) := fun A n c V hb r => sg_any X2 t a1 b1 A c n V (HWB.out.keep hb) ((r.below hb).more hb.size) HC2.out ha1
              rcases one_ok X2 t a1 ha1 with ⟨y, a2, he2, hy, hb0, hb1⟩ | he2 | he2
              · have HE2 := Lib.hid he2
                have hy9 : y < 9 := by have := HX2.out; omega
                have hx320 : x < 320 := by have := HX1.out; omega
                by_cases hfar : 8 * t.size < a2 + y
                · have HPB := Lib.hid (fun w' hb => HNO3.out (HJ.out.far hlt2 he hx256 he2 hfar) w' hb)
                  replace hfar := Lib.hid hfar
                  clear he he2 hlen
                  go_wp2_with (first
                    | (go_at_call 25; refine (HSG2.out _ _ _ w6 HB6.out HSUF.out).mono ?_; rintro e w7 hP; obtain ⟨q2, k2, hw7, rfl, hk2⟩ := sg_hit' hP HE2.out; have HB7 := Lib.hid (drewn_below hw7 HB6.out); have HO7 := Lib.hid (drewn_own hw7 HO6.out); obtain ⟨ff1, ff2⟩ := far_yes HMM.out hk2 ha1 hfar.out; clear hP hw7)
                    | (go_at_call 25; refine HSG.out.mono ?_; rintro e w6 hP; obtain ⟨q, k', hw6, rfl, hk'⟩ := sg_hit' hP HE1.out; have HB6 := Lib.hid (drewn_below hw6 HB.out); have HO6 := Lib.hid (drewn_own hw6 HOW.out); obtain ⟨j1, j2, hs6, hMM⟩ := suf_bits HRB.out hk' ha1; obtain ⟨A2, hA2⟩ : ∃ z, (if cR = k' then AR else Option.map (fun x => x.add k') AR) = z := ⟨_, rfl⟩; obtain ⟨M2, hM2⟩ : ∃ z, M - k' = z := ⟨_, rfl⟩; obtain ⟨C2, hC2⟩ : ∃ z, cR - k' = z := ⟨_, rfl⟩; rw [hA2, hM2, hC2] at hs6; rw [hM2] at hMM; have HSUF := Lib.hid hs6; have j3 : (k' : Int) ≤ (M : Int) := Int.ofNat_le.2 j1; have j4 : (k' : Int) ≤ (cR : Int) := Int.ofNat_le.2 j2; have HMM := Lib.hid hMM; have c6 := (HB6.out.cell (p := ⟨W.heap.size, 1, none⟩) hN2).trans HC01.out; clear hP hs6 hMM hw6 hk'))
                  all_goals exact HPB.out _ (HBA.out.trans (HB7.out.mono HBA.out.size))
                · have HJ2 := Lib.hid (fun hv hp => HJ.out.copy hlt2 he hx256 hx320 he2 hfar hv hp)
                  have hT := tn_bd t a2 y
                  have hpy : (2 : Int) ^ y ≤ 256 := by
                    have h1 : (2 : Nat) ^ y ≤ 2 ^ 8 := Nat.pow_le_pow_right (by omega) (by omega)
                    have h3 : ((2 ^ y : Nat) : Int) ≤ ((2 ^ 8 : Nat) : Int) := by exact_mod_cast h1
                    simpa using h3
                  have hpy0 : (0 : Int) < 2 ^ y := Int.pow_pos (by decide)
                  have HJ3 := Lib.hid (HJ2.out (by omega) (by omega))
                  have HPW : Hid (∀ V, Calls Try.prog 26 #[.int .i64 y] V fun e w' => ∃ _ : Unit, e = .returned (.int .i64 (2 ^ y)) ∧ w' = V) := fun V => by
                    have := pow2_any (y : Int) V (by omega) (by omega)
                    rw [Int.toNat_natCast] at this; exact this.mono (by rintro e w' ⟨h1, h2⟩; exact ⟨(), h1, h2.symm⟩)
                  have HMA := Lib.hid (mark_app (L := L) (m := ⟨(x : Int) - 253, 2 ^ y + tn t a2 y, 0⟩))
                  have G2 : Hid (∀ u ∈ (#[.int .i64 ((x : Int) - 253), .int .i64 (2 ^ y + tn t a2 y), .int .u8 0] : Array Value).toList, u.oneCell' = true) := by simp [Hid, Value.oneCell']
                  have e1 : IntKind.i64.wrap ((x : Int) - 253) = (x : Int) - 253 := by rw [IntKind.wrap_i64]; omega
                  have e3 : IntKind.i64.wrap (2 ^ y) = 2 ^ y := by rw [IntKind.wrap_i64]; omega
                  have e4 : IntKind.i64.wrap (tn t a2 y) = tn t a2 y := by rw [IntKind.wrap_i64]; omega
                  have e5 : IntKind.i64.wrap (2 ^ y + tn t a2 y) = 2 ^ y + tn t a2 y := by rw [IntKind.wrap_i64]; omega
                  have y0 : (0 : Int) ≤ (y : Int) := by omega
                  replace hfar := Lib.hid hfar
                  clear he he2 hlen HJ2 hpy hpy0
                  obtain ⟨hT0, _⟩ := hT
                  generalize hTT : tn t a2 y = T at *
                  replace hTT := Lib.hid hTT
                  go_wp2_with (first
                    | (go_at_call 25; refine (HSG2.out _ _ _ w6 HB6.out HSUF.out).mono ?_; rintro e w7 hP; obtain ⟨q2, k2, hw7, rfl, hk2⟩ := sg_hit' hP HE2.out; have HB7 := Lib.hid (drewn_below hw7 HB6.out); have HO7 := Lib.hid (drewn_own hw7 HO6.out); obtain ⟨ff1, ff2⟩ := far_not HMM.out hk2 ha1 hfar.out; obtain ⟨b1, b2, b3, b4, b5, b6, b7⟩ := b_in ff2 HSUF.out.le hk2 hb1 hs3; obtain ⟨A3, C3, hA3, hC3, HR3⟩ := suf_bits2 HSUF.out hk2 hb1 y (not_far HMM.out hk2 ff2); replace hk2 := Lib.hid hk2; replace HR3 := Lib.hid HR3; clear hP hw7 hA2 hM2 hC2)
                    | (go_at_call 25; refine HSG.out.mono ?_; rintro e w6 hP; obtain ⟨q, k', hw6, rfl, hk'⟩ := sg_hit' hP HE1.out; have HB6 := Lib.hid (drewn_below hw6 HB.out); have HO6 := Lib.hid (drewn_own hw6 HOW.out); obtain ⟨j1, j2, hs6, hMM⟩ := suf_bits HRB.out hk' ha1; obtain ⟨A2, hA2⟩ : ∃ z, (if cR = k' then AR else Option.map (fun x => x.add k') AR) = z := ⟨_, rfl⟩; obtain ⟨M2, hM2⟩ : ∃ z, M - k' = z := ⟨_, rfl⟩; obtain ⟨C2, hC2⟩ : ∃ z, cR - k' = z := ⟨_, rfl⟩; rw [hA2, hM2, hC2] at hs6; rw [hM2] at hMM; have HSUF := Lib.hid hs6; have j3 : (k' : Int) ≤ (M : Int) := Int.ofNat_le.2 j1; have j4 : (k' : Int) ≤ (cR : Int) := Int.ofNat_le.2 j2; have HMM := Lib.hid hMM; have c6 := (HB6.out.cell (p := ⟨W.heap.size, 1, none⟩) hN2).trans HC01.out; clear hP hs6 hMM hw6 hk'))
                  have HNUM : Hid (∀ V, Below w2.heap.size w2 V → Calls Try.prog 27 #[.slice A3 y C3] V fun e w' => ∃ _ : Unit, e = .returned (.int .u64 T) ∧ w' = V) := fun V hb => by
                    have := number_any A3 y C3 _ w2.heap.size V (HR3.out.below hb) (fun z hz => tbL_bit t z (List.mem_of_mem_drop (List.mem_of_mem_take hz))) (by omega)
                    rw [horn_cut t a2 y (by have := hfar.out; omega), hTT.out] at this
                    exact this.mono (by rintro e w' ⟨h1, h2⟩; exact ⟨(), h1, h2.symm⟩)
                  obtain ⟨j5, j6, hs7, -⟩ := suf_bits HSUF.out (a1 := a2 + y) (k := k2 + y) (by have := hk2.out; omega) (by have := hfar.out; omega)
                  obtain ⟨A4, hA4⟩ : ∃ z, (if C2 = k2 + y then A2 else Option.map (fun x => x.add (k2 + y)) A2) = z := ⟨_, rfl⟩
                  obtain ⟨M4, hM4⟩ : ∃ z, M2 - (k2 + y) = z := ⟨_, rfl⟩
                  obtain ⟨C4, hC4⟩ : ∃ z, C2 - (k2 + y) = z := ⟨_, rfl⟩
                  rw [hA4, hM4, hC4] at hs7
                  have HS7 := Lib.hid hs7
                  have p9 : IntKind.i64.wrap ((k2 : Int) + (y : Int)) = (k2 : Int) + (y : Int) := by rw [IntKind.wrap_i64]; omega
                  have p10 : ((k2 : Int) + (y : Int)).toNat = k2 + y := by omega
                  have p11 : (0 : Int) ≤ (k2 : Int) + (y : Int) := by omega
                  have p12 : k2 ≤ k2 + y := by omega
                  have p13 : k2 + y - k2 = y := by omega
                  have HB7d := Lib.hid (HB7.out.drew)
                  have GOX : Hid (Owns (w7.alloc (.cells #[.int .i64 ((x : Int) - 253), .int .i64 (2 ^ y + T), .int .u8 0] 73)).drew w2.heap.size 3 (.slice A L.length c) L.length (L.flatMap Mark.cells)) := (HO7.out.alloc _).drew
                  have GBX : Hid (w2.heap.size ≤ (w7.alloc (.cells #[.int .i64 ((x : Int) - 253), .int .i64 (2 ^ y + T), .int .u8 0] 73)).drew.heap.size) := size_allocM HB7.out (Nat.le_refl _)
                  have GHX : Hid ((w7.alloc (.cells #[.int .i64 ((x : Int) - 253), .int .i64 (2 ^ y + T), .int .u8 0] 73)).drew.heap[w7.heap.size]? = some (.cells #[.int .i64 ((x : Int) - 253), .int .i64 (2 ^ y + T), .int .u8 0] 73)) := heap_alloc_new w7 _
                  have HBX : Hid (Below w2.heap.size w2 (w7.alloc (.cells #[.int .i64 ((x : Int) - 253), .int .i64 (2 ^ y + T), .int .u8 0] 73)).drew) := (HB7.out.alloc HB7.out.size _).drew
                  clear hs7
                  go_region_law (first
                    | (refine step_app1 (P := Try.prog) (e := 73) (z := .agg #[.int .i64 0, .int .i64 0, .int .u8 0]) (size := 3) (bytes := 24) (base := w2.heap.size) rfl (.tmp 102) (.tmp 117) 39 rfl Try.underlying39 info_markP rfl G4.out A L.length c (L.flatMap Mark.cells) (by simp [go_sem]) GOX.out GBX.out w7.heap.size 1 #[.int .i64 ((x : Int) - 253), .int .i64 (2 ^ y + T), .int .u8 0] 73 (by simp [go_sem]) GHX.out rfl G2.out G3.out.1 G3.out.2 ?_; intro A5 c5 w10 hown10 hl10 hn10; have HO10 := Lib.hid hown10; have HB10 := Lib.hid (hl10.below (Nat.le_refl _) HBX.out); clear hown10 hl10 hn10)
                    | (refine step_enterc rfl 26 rfl #[.int .i64 y] (fun _ : Unit => .int .i64 (2 ^ y)) (by simp [go_sem]) (HPW.out w7.drew) ?_; rintro ⟨⟩ w8 rfl)
                    | (refine step_enterc rfl 27 rfl #[.slice A3 y C3] (fun _ : Unit => .int .u64 T) (by simp [go_sem]) (HNUM.out w7.drew HB7d.out) ?_; rintro ⟨⟩ w8 rfl))
                  all_goals
                    clear hA3 hC3 p13
                    go_wp2_with fail
                    go_roundw
                    case rel => exact ⟨k + 1, a2 + y, A5, c5, _, _, _, _, by omega, rfl, by rw [List.length_append]; rfl, by go_num, HJ3.out, HS7.out, by rw [← HMA.out, List.length_append]; exact HO10.out, HB10.out⟩
                    case measure => (simp [intOf]; try omega)
              · have HPB := Lib.hid (fun w' hb => HNO3.out (HJ.out.bad2 hlt2 he hx256 he2 (by decide)) w' hb)
                have HZ : Hid ((7 : Int) ≠ 0) := by simp only [Hid]; decide
                have HE2 := Lib.hid he2
                clear he he2 hlen
                go_wp2_with (first
                  | (go_at_call 25; refine (HSG2.out _ _ _ w6 HB6.out HSUF.out).mono ?_; rintro e w7 hP; obtain ⟨q2, hw7, rfl⟩ := sg_bad hP HE2.out HZ.out; have HB7 := Lib.hid (HBA.out.trans ((drewn_below hw7 HB6.out).mono HBA.out.size)); clear hP hw7)
                  | (go_at_call 25; refine HSG.out.mono ?_; rintro e w6 hP; obtain ⟨q, k', hw6, rfl, hk'⟩ := sg_hit' hP HE1.out; have HB6 := Lib.hid (drewn_below hw6 HB.out); have HO6 := Lib.hid (drewn_own hw6 HOW.out); obtain ⟨j1, j2, hs6, hMM⟩ := suf_bits HRB.out hk' ha1; obtain ⟨A2, hA2⟩ : ∃ z, (if cR = k' then AR else Option.map (fun x => x.add k') AR) = z := ⟨_, rfl⟩; obtain ⟨M2, hM2⟩ : ∃ z, M - k' = z := ⟨_, rfl⟩; obtain ⟨C2, hC2⟩ : ∃ z, cR - k' = z := ⟨_, rfl⟩; rw [hA2, hM2, hC2] at hs6; rw [hM2] at hMM; have HSUF := Lib.hid hs6; have j3 : (k' : Int) ≤ (M : Int) := Int.ofNat_le.2 j1; have j4 : (k' : Int) ≤ (cR : Int) := Int.ofNat_le.2 j2; have HMM := Lib.hid hMM; have c6 := (HB6.out.cell (p := ⟨W.heap.size, 1, none⟩) hN2).trans HC01.out; clear hP hs6 hMM hw6 hk'))
                all_goals
                  exact HPB.out _ HB7.out
              · have HPB := Lib.hid (fun w' hb => HNO3.out (HJ.out.bad2 hlt2 he hx256 he2 (by decide)) w' hb)
                have HZ : Hid ((3 : Int) ≠ 0) := by simp only [Hid]; decide
                have HE2 := Lib.hid he2
                clear he he2 hlen
                go_wp2_with (first
                  | (go_at_call 25; refine (HSG2.out _ _ _ w6 HB6.out HSUF.out).mono ?_; rintro e w7 hP; obtain ⟨q2, hw7, rfl⟩ := sg_bad hP HE2.out HZ.out; have HB7 := Lib.hid (HBA.out.trans ((drewn_below hw7 HB6.out).mono HBA.out.size)); clear hP hw7)
                  | (go_at_call 25; refine HSG.out.mono ?_; rintro e w6 hP; obtain ⟨q, k', hw6, rfl, hk'⟩ := sg_hit' hP HE1.out; have HB6 := Lib.hid (drewn_below hw6 HB.out); have HO6 := Lib.hid (drewn_own hw6 HOW.out); obtain ⟨j1, j2, hs6, hMM⟩ := suf_bits HRB.out hk' ha1; obtain ⟨A2, hA2⟩ : ∃ z, (if cR = k' then AR else Option.map (fun x => x.add k') AR) = z := ⟨_, rfl⟩; obtain ⟨M2, hM2⟩ : ∃ z, M - k' = z := ⟨_, rfl⟩; obtain ⟨C2, hC2⟩ : ∃ z, cR - k' = z := ⟨_, rfl⟩; rw [hA2, hM2, hC2] at hs6; rw [hM2] at hMM; have HSUF := Lib.hid hs6; have j3 : (k' : Int) ≤ (M : Int) := Int.ofNat_le.2 j1; have j4 : (k' : Int) ≤ (cR : Int) := Int.ofNat_le.2 j2; have HMM := Lib.hid hMM; have c6 := (HB6.out.cell (p := ⟨W.heap.size, 1, none⟩) hN2).trans HC01.out; clear hP hs6 hMM hw6 hk'))
                all_goals
                  exact HPB.out _ HB7.out
          · have HPB := Lib.hid (fun w' hb => HNO3.out (HJ.out.bad hlt2 he (by decide)) w' hb)
            have HZ : Hid ((7 : Int) ≠ 0) := by simp only [Hid]; decide
            have HE1 := Lib.hid he
            clear he
            go_wp2_with (go_at_call 25; refine HSG.out.mono ?_; rintro e w6 hP; obtain ⟨q, hw6, rfl⟩ := sg_bad hP HE1.out HZ.out; have HB6 := Lib.hid (HBA.out.trans ((drewn_below hw6 HB.out).mono HBA.out.size)); clear hP hw6)
            all_goals
              exact HPB.out _ HB6.out
          · have HPB := Lib.hid (fun w' hb => HNO3.out (HJ.out.bad hlt2 he (by decide)) w' hb)
            have HZ : Hid ((3 : Int) ≠ 0) := by simp only [Hid]; decide
            have HE1 := Lib.hid he
            clear he
            go_wp2_with (go_at_call 25; refine HSG.out.mono ?_; rintro e w6 hP; obtain ⟨q, hw6, rfl⟩ := sg_bad hP HE1.out HZ.out; have HB6 := Lib.hid (HBA.out.trans ((drewn_below hw6 HB.out).mono HBA.out.size)); clear hP hw6)
            all_goals
              exact HPB.out _ HB6.out
        · obtain rfl : k = m := by omega
          have i2 : ¬ (k : Int) < (k : Int) := by omega
          have hmk : mkR X X2 t k 0 [] = some (L, a) := by rw [HJ.out.eq, Nat.sub_self]; rfl
          have hml := HRB.out.len
          rw [List.length_drop, tbL_length] at hml
          have HBE := Lib.hid (HBA.out.trans (HB.out.mono HBA.out.size))
          have HFI := Lib.hid (fin_iff hle)
          have HROWS := Lib.hid (HOW.out.rows (enc := Mark.cells) (k := 3) (fun _ => rfl) (by decide))
          have HY := Lib.hid (fun (ok : Bool) q => HEND.out L a A c ok w5 hmk HJ.out.len q HROWS.out HBE.out HJ.out.ok)
          have HN := Lib.hid (fun q => HENDN.out L a w5 hmk q HBE.out)
          have HML := Lib.hid hml
          have HR5 := Lib.hid ((HRB.out.below HB.out).more HB.out.size)
          have hMb : M ≤ 8388600 := by omega
          clear HEND HENDN HNO3 hmk hml
          go_wp2
          go_loop [21, 127] (fun _ v127 => ∃ j : Nat, j ≤ M ∧ v127 = .int .i64 j ∧ Hid (∀ i, i < j → ((tbL t).drop a)[i]? = some 0)) (fun _ v127 => M - (intOf v127).toNat)
          case atStart => exact ⟨0, Nat.zero_le _, rfl, fun i h => by omega⟩
          case round =>
            obtain ⟨j, hj, rfl, HZ⟩ := hrel
            by_cases hjM : j < M
            · have j1 : (j : Int) < (M : Int) := by omega
              have hjl : j < ((tbL t).drop a).length := by rw [List.length_drop, tbL_length]; have := HML.out; omega
              have e1 := List.getElem?_eq_getElem hjl
              have hbz := tbL_bit t _ (List.mem_of_mem_drop (List.getElem_mem hjl))
              obtain ⟨b, o, rfl, hbB, hc⟩ := HR5.out.one e1
              rcases (show ((tbL t).drop a)[j] = 0 ∨ ((tbL t).drop a)[j] = 1 by omega) with h0 | h0
              · rw [h0] at e1 hc
                have HZ2 : Hid (∀ i, i < j + 1 → ((tbL t).drop a)[i]? = some 0) := fun i h => by
                  by_cases e : i = j
                  · subst e; exact e1
                  · exact HZ.out i (by omega)
                clear e1 h0 hbz hjl
                go_wp2
                go_round
                case rel => exact ⟨j + 1, by omega, by go_num, HZ2.out⟩
                case measure => (simp [intOf]; try omega)
              · rw [h0] at e1 hc
                have HP := Lib.hid (HN.out (fun q => absurd ((HFI.out.1 q).2 1 (List.mem_of_getElem? e1)) (by decide)))
                clear e1 h0 hbz hjl
                go_wp2
                exact HP.out
            · obtain rfl : j = M := by omega
              have j1 : ¬ (j : Int) < (j : Int) := by omega
              have hall : ∀ x ∈ (tbL t).drop a, x = 0 := fun x hx => by
                obtain ⟨i, hi⟩ := List.mem_iff_getElem?.1 hx
                have hil := (List.getElem?_eq_some_iff.1 hi).1
                rw [List.length_drop, tbL_length] at hil
                have := HZ.out i (by have := HML.out; omega)
                rw [hi] at this; injection this
              by_cases h8 : j < 8
              · have HP := Lib.hid (HY.out true (.inr ⟨rfl, HFI.out.2 ⟨by have := HML.out; omega, hall⟩⟩))
                have d1 := decide_eq_true (show (j : Int) < 8 by omega)
                clear hall h8
                go_wp2
                exact HP.out
              · have HP := Lib.hid (HY.out false (.inl ⟨rfl, fun q => by have := (HFI.out.1 q).1; have := HML.out; omega⟩))
                have d1 := decide_eq_false (show ¬ (j : Int) < 8 by omega)
                clear hall h8
                go_wp2
                exact HP.out
end Go.Proofs.Ytebgcemglicjiaa
