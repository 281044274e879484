/- blob.Size and blob.Split, walked. -/
import Derived.Test.YteppengbjpdaiaaSplitP
import Derived.Test.YteppengbjpdaiaaBlobsW
namespace Go.Proofs.Yteppengbjpdaiaa
open Go.RowKit Go.PlainAid

theorem info_i64s : (Try.prog.info? 3).map (fun i => (i.zero, i.size, i.bytes)) = some (some (.int .i64 0), 1, 8) := by kernel_rfl
theorem flat_ints' (xs : List Int) : xs.flatMap (fun z => [Value.int .i64 z]) = xs.map (Value.int .i64) := by
  induction xs with
  | nil => rfl
  | cons x r ih => simp [ih]
theorem own_ints {w : World} {base n c : Nat} {A : Option Addr} {xs : List Int} (h : Owns w base 1 (.slice A n c) n (xs.map (Value.int .i64))) : RowsIn w w.heap.size A n c (fun z => [.int .i64 z]) 1 xs := by
  rw [← flat_ints'] at h
  exact h.rows (enc := fun z => [Value.int .i64 z]) (k := 1) (fun _ => rfl) Nat.one_pos
theorem no_ints (w : World) (B : Nat) : RowsIn w B none 0 0 (fun z => [.int .i64 z]) 1 ([] : List Int) := ⟨rfl, Nat.le_refl _, Nat.zero_le _, fun i x h => by simp at h⟩
theorem own_add {w : World} {base : Nat} {A : Option Addr} {c : Nat} {R : List Int} {x : Int} (h : Owns w base 1 (.slice A (R.length + 1) c) (R.length + 1) (R.map (Value.int .i64) ++ (#[Value.int .i64 x] : Array Value).toList)) : Owns w base 1 (.slice A (R.length + 1) c) (R ++ [x]).length ((R ++ [x]).map (Value.int .i64)) := by
  rw [List.length_append, List.length_singleton, List.map_append]; exact h
structure SpS (l : List BlobD) (j nn zz : Nat) (R : List Int) : Prop where
  cut : cutTo l j = ⟨R, nn, zz⟩
  chk : chkL l = chkL (l.drop j)
  n40 : nn ≤ 40
  z1 : zz ≤ 1000
  len : R.length ≤ j
  pos : 0 < j → 0 < nn
section
variable {l : List BlobD} {j nn zz : Nat} {R : List Int} {k i n : Int} {t : ByteArray}
theorem bsz_le (hE : blbE k i n t = 0) : bsz ⟨k, i, n, t⟩ ≤ 613 := by
  have := oneL_len k i n t; obtain ⟨_, _, _, _, _, _, h⟩ := blbE_zero hE; unfold bsz; simp only []; omega
theorem SpS.cutIt (h : SpS l j nn zz R) (e : l[j]? = some ⟨k, i, n, t⟩) (hE : blbE k i n t = 0) (hc : nn = 40 ∨ 1000 < zz + bsz ⟨k, i, n, t⟩) : SpS l (j + 1) 1 (2 + bsz ⟨k, i, n, t⟩) (R ++ [(nn : Int)]) := by
  have := bsz_le hE
  refine ⟨by rw [cut_cut e (by rw [h.cut]; exact hc), h.cut], h.chk.trans (chkL_go e hE), by omega, by omega, by have := h.len; simp; omega, fun _ => by omega⟩
theorem SpS.goOn (h : SpS l j nn zz R) (e : l[j]? = some ⟨k, i, n, t⟩) (hE : blbE k i n t = 0) (hc : ¬ (nn = 40 ∨ 1000 < zz + bsz ⟨k, i, n, t⟩)) : SpS l (j + 1) (nn + 1) (zz + bsz ⟨k, i, n, t⟩) R := by
  refine ⟨by rw [cut_go e (by rw [h.cut]; exact hc), h.cut], h.chk.trans (chkL_go e hE), by have := h.n40; omega, by omega, by have := h.len; omega, fun _ => by omega⟩
theorem SpS.bad (h : SpS l j nn zz R) (e : l[j]? = some ⟨k, i, n, t⟩) (hE : blbE k i n t ≠ 0) : splE l = blbE k i n t ∧ splX l = [] := by
  have e1 : chkL l = blbE k i n t := h.chk.trans (chkL_bad e hE)
  exact ⟨e1, splX_no (by rw [e1]; exact hE)⟩
theorem SpS.fin (h : SpS l j nn zz R) (hj : j = l.length) : splE l = 0 ∧ splX l = if 0 < nn then R ++ [(nn : Int)] else R := by
  have e1 : chkL l = 0 := h.chk.trans (chkL_end (by omega))
  refine ⟨e1, ?_⟩
  rw [splX_ok e1]; unfold splL; rw [← hj, h.cut]
end

set_option maxRecDepth 20000 in
set_option maxHeartbeats 400000 in
theorem size_any (k i n : Int) (t : ByteArray) (w : World) (hz : t.size ≤ 600) :
    Calls Try.prog 59 #[.agg #[.int .i64 k, .int .i64 i, .int .i64 n, .string t]] w fun e w' => e = .returned (.int .i64 (bsz ⟨k, i, n, t⟩ : Nat)) ∧ Below w.heap.size w w' := by
  have hs : bsz ⟨k, i, n, t⟩ = 3 + t.size + 1 + (if 128 ≤ t.size then 1 else 0) := oneL_size hz
  have hwb : Below w.heap.size w (w.alloc (.cells #[.int .i64 k, .int .i64 i, .int .i64 n, .string t] 31)) := (Below.refl _ _).alloc (Nat.le_refl _) _
  by_cases h : 128 ≤ t.size
  · rw [if_pos h] at hs
    have F : Hid ((3 : Int) + (t.size : Int) + 1 + 1 = (bsz ⟨k, i, n, t⟩ : Nat)) := by simp only [Hid]; omega
    have h1 : (128 : Int) ≤ (t.size : Int) := by omega
    clear hs
    generalize bsz ⟨k, i, n, t⟩ = bz at *
    go_enter Try.func59, Try.ntmps59
    go_wp2
    go_ret
    exact ⟨ret_i1 (by have := F.out; omega), hwb⟩
  · rw [if_neg h] at hs
    have F : Hid ((3 : Int) + (t.size : Int) + 1 = (bsz ⟨k, i, n, t⟩ : Nat)) := by simp only [Hid]; omega
    have h1 : (t.size : Int) < 128 := by omega
    clear hs
    generalize bsz ⟨k, i, n, t⟩ = bz at *
    go_enter Try.func59, Try.ntmps59
    go_wp2
    go_ret
    exact ⟨ret_i1 (by have := F.out; omega), hwb⟩

theorem carry_le {w1 w2 : World} {o : Obj} {B : Nat} (hb : Below (w1.alloc o).heap.size (w1.alloc o) w2) (h : B ≤ w1.heap.size) : B ≤ w2.heap.size := by
  have := hb.size
  have : w1.heap.size ≤ (w1.alloc o).heap.size := by simp
  omega
set_option maxRecDepth 20000 in
set_option maxHeartbeats 2000000 in
theorem split_any (A : Option Addr) (n c : Nat) (l : List BlobD) (w : World) (r : RowsIn w w.heap.size A n c BlobD.cells 4 l) (hc40 : c * 40 ≤ 140737488351232) :
    Calls Try.prog 26 #[.slice A n c] w fun e w' => ∃ A q c, e = .returned (.tuple #[.slice A q c, .int .i64 (splE l)]) ∧ RowsIn w' w'.heap.size A q c (fun z => [.int .i64 z]) 1 (splX l) ∧ Below w.heap.size w w' := by
  have hle := r.le
  have hlen := r.len
  obtain rfl := hlen
  have hlb : l.length ≤ 3518437208783 := by omega
  clear hle
  go_enter Try.func26, Try.ntmps26
  go_wp2
  go_loopw [4, 5, 6, 12] (fun v4 v5 v6 v12 wr => ∃ (j nn zz : Nat) (R : List Int), SpS l j nn zz R ∧ j ≤ l.length ∧ v12 = .int .i64 j ∧ v5 = .int .i64 nn ∧ v6 = .int .i64 zz ∧ Owns wr w.heap.size 1 v4 R.length (R.map (Value.int .i64)) ∧ Below w.heap.size w wr) (fun _ _ _ v12 _ => l.length - (intOf v12).toNat)
  case atStart => exact ⟨0, 0, 2, [], ⟨rfl, rfl, by omega, by omega, Nat.zero_le _, fun h => by omega⟩, Nat.zero_le _, rfl, rfl, rfl, Owns.nil _ _ _, Below.refl _ _⟩
  case round =>
    obtain ⟨j, nn, zz, R, hI, hj, rfl, rfl, rfl, hown, hb⟩ := hrel
    obtain ⟨AO, cO, rfl⟩ := hown.form
    have hsz := hb.size
    have hn40 := hI.n40
    have hz1000 := hI.z1
    have hRl := hI.len
    have HI := Lib.hid hI
    clear hI
    by_cases hlt : j < l.length
    · have e1 := List.getElem?_eq_getElem hlt
      obtain ⟨b, o, rfl, hbB, hc⟩ := (r.below hb).at_ j _ e1
      have hp0 := hc 0 _ rfl
      have hp1 := hc 1 _ rfl
      have hp2 := hc 2 _ rfl
      have hp3 := hc 3 _ rfl
      simp only [Nat.add_zero] at hp0
      obtain ⟨pk, pi, pn, pt, hpe⟩ : ∃ pk pi pn pt, l[j] = (⟨pk, pi, pn, pt⟩ : BlobD) := ⟨_, _, _, _, rfl⟩
      rw [hpe] at e1 hp0 hp1 hp2 hp3
      have hp0 : wr.cell? ⟨b, o + j * 4, none⟩ = some (.int .i64 pk) := hp0
      have hp1 : wr.cell? ⟨b, o + j * 4 + 1, none⟩ = some (.int .i64 pi) := hp1
      have hp2 : wr.cell? ⟨b, o + j * 4 + 2, none⟩ = some (.int .i64 pn) := hp2
      have hp3 : wr.cell? ⟨b, o + j * 4 + 3, none⟩ = some (.string pt) := hp3
      clear hc hpe
      have hbl : b < wr.heap.size := by omega
      have hne : Hid (Value.ownBlock (.slice AO R.length cO) ≠ some wr.heap.size) := fun e => by have := (hown.lt _ e).2; omega
      by_cases hE : blbE pk pi pn pt = 0
      · have HK : Hid (∀ W, Calls Try.prog 21 #[.agg #[.int .i64 pk, .int .i64 pi, .int .i64 pn, .string pt]] W fun e w' => e = .returned (.int .i64 0) ∧ Below W.heap.size W w') := fun W => by have := bchk_any pk pi pn pt W; rw [hE] at this; exact this
        have hpz : pt.size ≤ 600 := (blbE_zero hE).2.2.2.2.2.2
        have HZ : Hid (∀ W, Calls Try.prog 59 #[.agg #[.int .i64 pk, .int .i64 pi, .int .i64 pn, .string pt]] W fun e w' => e = .returned (.int .i64 (bsz ⟨pk, pi, pn, pt⟩ : Nat)) ∧ Below W.heap.size W w') := fun W => size_any pk pi pn pt W hpz
        have hbz := bsz_le hE
        have HCut := Lib.hid (fun hc => HI.out.cutIt e1 hE hc)
        have HGo := Lib.hid (fun hc => HI.out.goOn e1 hE hc)
        clear e1 hE HI hpz
        generalize bsz ⟨pk, pi, pn, pt⟩ = bz at *
        have f1 : IntKind.i64.wrap ((zz : Int) + (bz : Int)) = (zz : Int) + (bz : Int) := by rw [IntKind.wrap_i64]; omega
        by_cases h40 : nn = 40
        · have HN := Lib.hid (HCut.out (.inl h40))
          have g1 : ((nn : Int) == 40) = true := by rw [beq_iff_eq]; omega
          clear HCut HGo h40
          go_wp2_with (first
            | (go_at_call 21; refine (HK.out _).mono ?_; rintro e w1 ⟨rfl, hb1⟩; obtain ⟨q0, q1, q2, q3, q4⟩ := kept4 hb1; have ho1 := (hown.alloc _).fresh_below hb1; have hz1 := carry_le hb1 hsz)
            | (go_at_call 59; refine (HZ.out _).mono ?_; rintro e w4 ⟨rfl, hb4⟩)
            | (at_builtin; refine wpList_add1 rfl rfl Try.underlying38 info_i64s rfl (Nat.le_refl 1) ho1 rfl hz1 rfl rfl rfl ?_ ?_ ?_ ?_; simp [Value.oneCell']; (unfold maxLen; omega); omega; intro A3 c3 w3 hown3 hl3 hbk3; have x0 := hl3.cell q0 hne.out; have x1 := hl3.cell q1 hne.out; have x2 := hl3.cell q2 hne.out; have x3 := hl3.cell q3 hne.out))
          go_roundw
          case rel => exact ⟨j + 1, 1, 2 + bz, R ++ [(nn : Int)], HN.out, by omega, by go_num, rfl, by go_num, (own_add hown3).fresh_below hb4, (hl3.below (Nat.le_refl _) ((hb.alloc hsz _).trans (hb1.mono (by simp; omega)))).trans (hb4.mono (by have := hl3.size; omega))⟩
          case measure => simp [intOf]; omega
        · have g1 : ((nn : Int) == 40) = false := by rw [beq_eq_false_iff_ne]; omega
          by_cases hov : 1000 < zz + bz
          · have HN := Lib.hid (HCut.out (.inr hov))
            have g2 : (1000 : Int) < (zz : Int) + (bz : Int) := by omega
            clear HCut HGo
            go_wp2_with (first
              | (go_at_call 21; refine (HK.out _).mono ?_; rintro e w1 ⟨rfl, hb1⟩; obtain ⟨q0, q1, q2, q3, q4⟩ := kept4 hb1; have ho1 := (hown.alloc _).fresh_below hb1; have hz1 := carry_le hb1 hsz)
              | (go_at_call 59; refine (HZ.out _).mono ?_; rintro e w2 ⟨rfl, hb2⟩; have s0 := (hb2.cell (p := ⟨wr.heap.size, 0, none⟩) q4).trans q0; have s1 := (hb2.cell (p := ⟨wr.heap.size, 1, none⟩) q4).trans q1; have s2 := (hb2.cell (p := ⟨wr.heap.size, 2, none⟩) q4).trans q2; have s3 := (hb2.cell (p := ⟨wr.heap.size, 3, none⟩) q4).trans q3; have ho2 := ho1.fresh_below hb2; have hz2 := Nat.le_trans hz1 hb2.size)
              | (go_at_call 59; refine (HZ.out _).mono ?_; rintro e w4 ⟨rfl, hb4⟩)
              | (at_builtin; refine wpList_add1 rfl rfl Try.underlying38 info_i64s rfl (Nat.le_refl 1) ho2 rfl hz2 rfl rfl rfl ?_ ?_ ?_ ?_; simp [Value.oneCell']; (unfold maxLen; omega); omega; intro A3 c3 w3 hown3 hl3 hbk3; have x0 := hl3.cell s0 hne.out; have x1 := hl3.cell s1 hne.out; have x2 := hl3.cell s2 hne.out; have x3 := hl3.cell s3 hne.out))
            go_roundw
            case rel => exact ⟨j + 1, 1, 2 + bz, R ++ [(nn : Int)], HN.out, by omega, by go_num, rfl, by go_num, (own_add hown3).fresh_below hb4, (hl3.below (Nat.le_refl _) (((hb.alloc hsz _).trans (hb1.mono (by simp; omega))).trans (hb2.mono (by omega)))).trans (hb4.mono (by have := hl3.size; omega))⟩
            case measure => simp [intOf]; omega
          · have HN := Lib.hid (HGo.out (fun h => h.elim h40 hov))
            have g2 : (zz : Int) + (bz : Int) ≤ 1000 := by omega
            clear HCut HGo
            go_wp2_with (first
              | (go_at_call 21; refine (HK.out _).mono ?_; rintro e w1 ⟨rfl, hb1⟩; obtain ⟨q0, q1, q2, q3, q4⟩ := kept4 hb1; have ho1 := (hown.alloc _).fresh_below hb1; have hz1 := carry_le hb1 hsz)
              | (go_at_call 59; refine (HZ.out _).mono ?_; rintro e w2 ⟨rfl, hb2⟩; have s0 := (hb2.cell (p := ⟨wr.heap.size, 0, none⟩) q4).trans q0; have s1 := (hb2.cell (p := ⟨wr.heap.size, 1, none⟩) q4).trans q1; have s2 := (hb2.cell (p := ⟨wr.heap.size, 2, none⟩) q4).trans q2; have s3 := (hb2.cell (p := ⟨wr.heap.size, 3, none⟩) q4).trans q3; have ho2 := ho1.fresh_below hb2; have hz2 := Nat.le_trans hz1 hb2.size)
              | (go_at_call 59; refine (HZ.out _).mono ?_; rintro e w4 ⟨rfl, hb4⟩))
            go_roundw
            case rel => exact ⟨j + 1, nn + 1, zz + bz, R, HN.out, by omega, by go_num, by go_num, by go_num, ho2.fresh_below hb4, (((hb.alloc hsz _).trans (hb1.mono (by simp; omega))).trans (hb2.mono (by omega))).trans (hb4.mono (by omega))⟩
            case measure => simp [intOf]; omega
      · have HK : Hid (∀ W, Calls Try.prog 21 #[.agg #[.int .i64 pk, .int .i64 pi, .int .i64 pn, .string pt]] W fun e w' => e = .returned (.int .i64 (blbE pk pi pn pt)) ∧ Below W.heap.size W w') := fun W => bchk_any pk pi pn pt W
        have F := Lib.hid (HI.out.bad e1 hE)
        have hne1 : (blbE pk pi pn pt != 0) = true := bne_iff_ne.2 hE
        generalize blbE pk pi pn pt = pe at *
        clear hE e1 HI
        go_wp2_with (go_at_call 21; refine (HK.out _).mono ?_; rintro e w1 ⟨rfl, hb1⟩)
        go_ret2
        exact ⟨none, 0, 0, by rw [F.out.1]; rfl, by rw [F.out.2]; exact no_ints _ _, (hb.alloc hsz _).trans (hb1.mono (by simp; omega))⟩
    · have F := Lib.hid (HI.out.fin (by omega))
      clear HI
      by_cases hnn : 0 < nn
      · have hF := F.out.2
        rw [if_pos hnn] at hF
        have F1 := Lib.hid F.out.1
        have hF := Lib.hid hF
        have h0 : (0 : Int) < (nn : Int) := by omega
        clear F
        go_wp2_with (at_builtin; refine wpList_add1 rfl rfl Try.underlying38 info_i64s rfl (Nat.le_refl 1) hown rfl hsz rfl rfl rfl ?_ ?_ ?_ ?_; simp [Value.oneCell']; (unfold maxLen; omega); omega; intro A3 c3 w3 hown3 hl3 hbk3)
        go_ret2
        exact ⟨A3, R.length + 1, c3, by rw [F1.out]; rfl, by have h9 := own_add hown3; rw [List.length_append, List.length_singleton] at h9; exact own_ints h9, hl3.below (Nat.le_refl _) hb⟩
      · have hF := F.out.2
        rw [if_neg hnn] at hF
        have F1 := Lib.hid F.out.1
        have hF := Lib.hid hF
        have h0 : ¬ (0 : Int) < (nn : Int) := by omega
        have h0' : (nn : Int) ≤ 0 := by omega
        clear F
        go_wp2
        go_ret2
        exact ⟨AO, R.length, cO, by rw [F1.out]; rfl, own_ints hown, hb⟩

structure SpO (l : List BlobD) (p : Nat) (R : List Int) : Prop where
  le : p ≤ l.length
  go : p < l.length → SpI l p 1 R
  fin : p = l.length → splL l = R
  len : R.length ≤ p
theorem SpO.start {l : List BlobD} (hb : ∀ b ∈ l, bsz b ≤ 613) : SpO l 0 [] :=
  ⟨Nat.zero_le _, fun h => SpI.first hb h, fun h => spl_nil h.symm, Nat.le_refl _⟩
theorem SpI.toO {l : List BlobD} {p n : Nat} {R : List Int} (h : SpI l p n R) (hb : ∀ b ∈ l, bsz b ≤ 613) (hR : R.length ≤ p) (hf : p + n < l.length → n = 40 ∨ 998 < (bodyL (seg l p (n + 1))).length) : SpO l (p + n) (R ++ [(n : Int)]) := by
  refine ⟨h.le, fun hlt => h.next hb hlt (hf hlt), fun he => h.done he, ?_⟩
  have := h.n1
  simp; omega
def IsRow (w : World) (B : Nat) (v : Value) (m : Nat) (xs : List BlobD) : Prop := ∃ A c, v = .slice A m c ∧ RowsIn w B A m c BlobD.cells 4 xs
theorem RowsIn.cut {w : World} {B m c n : Nat} {A : Option Addr} {xs : List BlobD} (h : RowsIn w B A m c BlobD.cells 4 xs) (hn : n ≤ m) : RowsIn w B A n c BlobD.cells 4 (xs.take n) :=
  ⟨by rw [List.length_take, h.len]; omega, by have := h.le; omega, h.top, fun i x hx => by
    have hi : i < n := by
      have := (List.getElem?_eq_some_iff.1 hx).1
      rw [List.length_take] at this; omega
    rw [List.getElem?_take, if_pos hi] at hx
    exact h.at_ i x hx⟩
theorem RowsIn.rest {w : World} {B m c n b o : Nat} {xs : List BlobD} (h : RowsIn w B (some ⟨b, o, none⟩) m c BlobD.cells 4 xs) (hn : n ≤ m) : RowsIn w B (some ⟨b, o + n * 4, none⟩) (m - n) (c - n) BlobD.cells 4 (xs.drop n) :=
  ⟨by rw [List.length_drop, h.len], by have := h.le; omega, by have := h.top; omega, fun i x hx => by
    rw [List.getElem?_drop] at hx
    obtain ⟨b', o', e, hb, hc⟩ := h.at_ (n + i) x hx
    injection e with e
    injection e with e1 e2 _
    subst e1; subst e2
    refine ⟨b, o + n * 4, rfl, hb, fun j u hu => ?_⟩
    rw [show o + n * 4 + i * 4 + j = o + (n + i) * 4 + j by omega]
    exact hc j u hu⟩
theorem IsRow.below {w w' : World} {B m : Nat} {v : Value} {xs : List BlobD} (h : IsRow w B v m xs) (hb : Below B w w') : IsRow w' B v m xs := by
  obtain ⟨A, c, e, r⟩ := h; exact ⟨A, c, e, r.below hb⟩
set_option maxRecDepth 20000 in
set_option maxHeartbeats 2000000 in
theorem splitr_any (A : Option Addr) (n c : Nat) (l : List BlobD) (w : World) (r : RowsIn w w.heap.size A n c BlobD.cells 4 l) (hc40 : c * 40 ≤ 140737488351232) :
    Calls Try.prog 27 #[.slice A n c] w fun e w' => ∃ A q c, e = .returned (.tuple #[.slice A q c, .int .i64 (splE l)]) ∧ RowsIn w' w'.heap.size A q c (fun z => [.int .i64 z]) 1 (splX l) ∧ Below w.heap.size w w' := by
  have hle := r.le
  have hlen := r.len
  obtain rfl := hlen
  have hlb : l.length ≤ 3518437208783 := by omega
  clear hle
  go_enter Try.func27, Try.ntmps27
  go_wp2
  go_loopw [13] (fun v13 wr => ∃ j : Nat, j ≤ l.length ∧ Hid (chkL l = chkL (l.drop j)) ∧ v13 = .int .i64 j ∧ Below w.heap.size w wr) (fun v13 _ => l.length - (intOf v13).toNat)
  case atStart => exact ⟨0, Nat.zero_le _, rfl, rfl, Below.refl _ _⟩
  case round =>
    obtain ⟨j, hj, hC, rfl, hb⟩ := hrel
    have hsz := hb.size
    by_cases hlt : j < l.length
    · have e1 := List.getElem?_eq_getElem hlt
      obtain ⟨b, o, rfl, hbB, hc⟩ := (r.below hb).at_ j _ e1
      have hp0 := hc 0 _ rfl
      have hp1 := hc 1 _ rfl
      have hp2 := hc 2 _ rfl
      have hp3 := hc 3 _ rfl
      simp only [Nat.add_zero] at hp0
      obtain ⟨pk, pi, pn, pt, hpe⟩ : ∃ pk pi pn pt, l[j] = (⟨pk, pi, pn, pt⟩ : BlobD) := ⟨_, _, _, _, rfl⟩
      rw [hpe] at e1 hp0 hp1 hp2 hp3
      have hp0 : wr.cell? ⟨b, o + j * 4, none⟩ = some (.int .i64 pk) := hp0
      have hp1 : wr.cell? ⟨b, o + j * 4 + 1, none⟩ = some (.int .i64 pi) := hp1
      have hp2 : wr.cell? ⟨b, o + j * 4 + 2, none⟩ = some (.int .i64 pn) := hp2
      have hp3 : wr.cell? ⟨b, o + j * 4 + 3, none⟩ = some (.string pt) := hp3
      clear hc hpe
      have hbl : b < wr.heap.size := by omega
      have HK : Hid (∀ W, Calls Try.prog 22 #[.agg #[.int .i64 pk, .int .i64 pi, .int .i64 pn, .string pt]] W fun e w' => e = .returned (.int .i64 (blbE pk pi pn pt)) ∧ Below W.heap.size W w') := fun W => blbr_any pk pi pn pt W
      by_cases hE : blbE pk pi pn pt = 0
      · have G : Hid (chkL l = chkL (l.drop (j + 1))) := hC.out.trans (chkL_go e1 hE)
        have HK2 : Hid (∀ W, Calls Try.prog 22 #[.agg #[.int .i64 pk, .int .i64 pi, .int .i64 pn, .string pt]] W fun e w' => e = .returned (.int .i64 0) ∧ Below W.heap.size W w') := fun W => by have := HK.out W; rw [hE] at this; exact this
        clear HK hE e1
        go_wp2_with (go_at_call 22; refine (HK2.out _).mono ?_; rintro e w1 ⟨rfl, hb1⟩)
        go_roundw
        case rel => exact ⟨j + 1, by omega, G, by go_num, (hb.alloc hsz _).trans (hb1.mono (by simp; omega))⟩
        case measure => simp [intOf]; omega
      · have hch : chkL l = blbE pk pi pn pt := hC.out.trans (chkL_bad e1 hE)
        have F : Hid (splE l = blbE pk pi pn pt ∧ splX l = []) := ⟨hch, splX_no (by rw [hch]; exact hE)⟩
        have hne1 : (blbE pk pi pn pt != 0) = true := bne_iff_ne.2 hE
        clear hch
        generalize blbE pk pi pn pt = pe at *
        clear hE e1
        go_wp2_with (go_at_call 22; refine (HK.out _).mono ?_; rintro e w1 ⟨rfl, hb1⟩)
        go_ret2
        exact ⟨none, 0, 0, by rw [F.out.1]; rfl, by rw [F.out.2]; exact no_ints _ _, (hb.alloc hsz _).trans (hb1.mono (by simp; omega))⟩
    · have hch : chkL l = 0 := hC.out.trans (chkL_end (by omega))
      have hbb : ∀ b ∈ l, bsz b ≤ 613 := fun b hb => by have := chkL_all hch b hb; obtain ⟨k, i, m, t⟩ := b; exact bsz_le this
      have HCh := Lib.hid hch
      have HB := Lib.hid hbb
      clear hch hbb hC
      have r0 : IsRow wr w.heap.size (.slice A l.length c) l.length l := ⟨A, c, rfl, r.below hb⟩
      go_wp2
      go_loopw [0, 7] (fun v0 v7 wo => ∃ (p m : Nat) (R : List Int), SpO l p R ∧ m ≤ l.length - p ∧ l.length - p ≤ m ∧ IsRow wo w.heap.size v0 m (l.drop p) ∧ Owns wo w.heap.size 1 v7 R.length (R.map (Value.int .i64)) ∧ Below w.heap.size w wo) (fun v0 _ _ => match v0 with | .slice _ m _ => m | _ => 0)
      case atStart => exact ⟨0, l.length, [], SpO.start HB.out, by omega, by omega, r0, Owns.nil _ _ _, hb⟩
      case round =>
        obtain ⟨p, m, R, hO, hm1, hm2, ⟨AR, cR, rfl, hr⟩, hown, hbo⟩ := hrel
        obtain ⟨AO, cO, rfl⟩ := hown.form
        have hszo := hbo.size
        have hRl := hO.len
        have hple := hO.le
        have HO := Lib.hid hO
        clear hO
        by_cases hm0 : 0 < m
        · have h0 : (0 : Int) < (m : Int) := by omega
          obtain ⟨b, o, rfl⟩ : ∃ b o, AR = some ⟨b, o, none⟩ := by
            obtain ⟨b, o, e, _⟩ := hr.at_ 0 _ (List.getElem?_eq_getElem (by rw [hr.len]; exact hm0))
            exact ⟨b, o, e⟩
          have hmc := hr.le
          have HR := Lib.hid hr
          have hI1 := HO.out.go (by omega)
          clear hr
          obtain ⟨wo, rfl⟩ : ∃ wo : World, wo = wr := ⟨_, rfl⟩
          go_wp2
          go_loopw [8] (fun v8 wi => ∃ k : Nat, SpI l p k R ∧ v8 = .int .i64 k ∧ Below wo.heap.size wo wi) (fun v8 _ => m - (intOf v8).toNat)
          case atStart => exact ⟨1, hI1, rfl, Below.refl _ _⟩
          case round =>
            obtain ⟨k, hI, rfl, hbi⟩ := hrel
            have hk1 := hI.n1
            have hk40 := hI.n40
            have hkl := hI.le
            have HI := Lib.hid hI
            clear hI
            have hbw : Below w.heap.size w wr := hbo.trans (hbi.mono hszo)
            have hszi := hbw.size
            have i1 : (k : Int) ≤ (m : Int) := by omega
            have i2 : (k : Int) ≤ (cR : Int) := by omega
            have i3 : (0 : Int) ≤ (k : Int) + 1 := by omega
            have i4 : ((k : Int) + 1).toNat = k + 1 := by omega
            have howi := hown.fresh_below hbi
            by_cases hkm : k < m
            · have j1 : (k : Int) < (m : Int) := by omega
              have j2 : (k : Int) + 1 ≤ (cR : Int) := by omega
              have j3 : IntKind.i64.wrap ((k : Int) + 1) = (k : Int) + 1 := by rw [IntKind.wrap_i64]; omega
              have j4 : ¬ cR = k := by omega
              have hfit := seg_fits (l := l) (p := p) (n := k) HCh.out (by omega) hk40
              have HBl : Hid (∀ W, Below wo.heap.size wo W → Calls Try.prog 20 #[.slice (some ⟨b, o, none⟩) (k + 1) cR, .bool false] W fun e w' => e = .returned (.tuple #[.string (strOfNums (blsS (seg l p (k + 1)) 0)), .int .i64 (blsE (seg l p (k + 1)))]) ∧ Below W.heap.size W w') := fun W h => bwrr_false _ _ _ _ W (((HR.out.cut (by omega)).below (h.mono hszo)).more (by have := h.size; omega))
              generalize strOfNums (blsS (seg l p (k + 1)) 0) = SS at *
              by_cases hf : k = 40 ∨ 998 < (bodyL (seg l p (k + 1))).length
              · rw [if_pos hf] at hfit
                rw [hfit] at HBl
                have HN := Lib.hid (HI.out.toO HB.out hRl (fun _ => hf))
                have HRR := Lib.hid (HR.out.rest (n := k) (by omega))
                clear hf hfit
                go_wp2_with (first
                  | (go_at_call 20; refine (HBl.out _ hbi).mono ?_; rintro e w1 ⟨rfl, hb1⟩; have ho1 := howi.fresh_below hb1; have hz1 := Nat.le_trans hszi hb1.size)
                  | (at_builtin; refine wpList_add1 rfl rfl Try.underlying38 info_i64s rfl (Nat.le_refl 1) ho1 rfl hz1 rfl rfl rfl ?_ ?_ ?_ ?_; simp [Value.oneCell']; (unfold maxLen; omega); omega; intro A3 c3 w3 hown3 hl3 hbk3))
                have hbel : Below w.heap.size wo w3 := hl3.below (Nat.le_refl _) ((hbi.mono hszo).trans (hb1.mono hszi))
                have hrr := HRR.out.below hbel
                rw [List.drop_drop] at hrr
                refine ⟨⟨p + k, m - k, R ++ [(k : Int)], HN.out, by omega, by omega, ⟨_, _, rfl, hrr⟩, own_add hown3, hl3.below (Nat.le_refl _) (hbw.trans (hb1.mono hszi))⟩, ?_⟩
                show m - k < m
                omega
              · rw [if_neg hf] at hfit
                rw [hfit] at HBl
                have HN := Lib.hid (HI.out.more (by omega) hf)
                clear hf hfit
                go_wp2_with (go_at_call 20; refine (HBl.out _ hbi).mono ?_; rintro e w1 ⟨rfl, hb1⟩)
                go_roundw
                case rel => exact ⟨k + 1, HN.out, by go_num, hbi.trans (hb1.mono hbi.size)⟩
                case measure => simp [intOf]; omega
            · have hke : k = m := by omega
              have HN := Lib.hid (HI.out.toO HB.out hRl (fun h => by omega))
              have hkc : Hid (RowsIn wo w.heap.size (some ⟨b, o + k * 4, none⟩) (m - k) (cR - k) BlobD.cells 4 ((l.drop p).drop k)) := HR.out.rest (n := k) (by omega)
              have j1 : ¬ (k : Int) < (m : Int) := by omega
              go_wp2_with (at_builtin; refine wpList_add1 rfl rfl Try.underlying38 info_i64s rfl (Nat.le_refl 1) howi rfl hszi rfl rfl rfl ?_ ?_ ?_ ?_; simp [Value.oneCell']; (unfold maxLen; omega); omega; intro A3 c3 w3 hown3 hl3 hbk3)
              have htop := HR.out.top
              subst hke
              refine ⟨⟨p + k, 0, R ++ [(k : Int)], HN.out, by omega, by omega, ⟨_, _, rfl, ⟨by rw [List.length_drop]; omega, Nat.zero_le _, by omega, fun i x hx => by rw [List.getElem?_eq_none (by rw [List.length_drop]; omega)] at hx; cases hx⟩⟩, own_add hown3, hl3.below (Nat.le_refl _) hbw⟩, ?_⟩
              show 0 < k
              omega
        · have h0 : ¬ (0 : Int) < (m : Int) := by omega
          have F : Hid (splE l = 0 ∧ splX l = R) := ⟨HCh.out, (splX_ok HCh.out).trans (HO.out.fin (by omega))⟩
          go_wp2
          go_ret2
          exact ⟨AO, R.length, cO, by rw [F.out.1]; rfl, by rw [F.out.2]; exact own_ints hown, hbo⟩

end Go.Proofs.Yteppengbjpdaiaa
