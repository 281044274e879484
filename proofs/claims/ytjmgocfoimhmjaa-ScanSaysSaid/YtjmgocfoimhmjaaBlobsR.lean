/- linenref.one, blob.Write and linenref.Blobs, walked. -/
import Derived.Test.YtjmgocfoimhmjaaBlobW
import Derived.Test.YtjmgocfoimhmjaaFixW
import Derived.Test.YtjmgocfoimhmjaaPutW
import Derived.Test.YtjmgocfoimhmjaaHeld
import Derived.Test.YtjmgocfoimhmjaaInodeP
import Derived.Deep.RegionHeld3
import Derived.Deep.RegionHeldLaw
namespace Go.Proofs.Ytjmgocfoimhmjaa
open Go.RowKit Go.PlainAid

theorem run_str3 {P : Program} {e : TypeId} {src dst : TypeId} (hs : P.underlying src = some (.slice e)) (he : P.underlying e = some (.int .u8)) (hd : P.underlying dst = some .string) (x0 x1 x2 : Int) :
    ∀ (W : World) (b c : Nat), W.cell? ⟨b, 0, none⟩ = some (.int .u8 x0) → W.cell? ⟨b, 1, none⟩ = some (.int .u8 x1) → W.cell? ⟨b, 2, none⟩ = some (.int .u8 x2) → (convert src dst (.slice (some ⟨b, 0, none⟩) 3 c)).run P W = .ok (.string (strOfNums [x0, x1, x2])) W := fun W b c h0 h1 h2 =>
  run_convert_bytes_arg W src e hs he b 0 3 c [x0, x1, x2] rfl (fun i hi => by
    have : i = 0 ∨ i = 1 ∨ i = 2 := by omega
    rcases this with rfl | rfl | rfl
    · simpa using h0
    · simpa using h1
    · simpa using h2) dst hd
theorem kept3r {W w' : World} {b : Nat} (v0 v1 v2 : Value) (t : TypeId) (hb : Below W.heap.size W w') (h : W.heap[b]? = some (.cells #[v0, v1, v2] t)) : w'.cell? ⟨b, 0, none⟩ = some v0 ∧ w'.cell? ⟨b, 1, none⟩ = some v1 ∧ w'.cell? ⟨b, 2, none⟩ = some v2 := by
  have h' := row_below h (row_lt h) hb
  exact ⟨row_cell h' 0, row_cell h' 1, row_cell h' 2⟩
theorem cat_str {P : Program} (xs : List Int) (t : ByteArray) (h : xs.length + t.size ≤ 9223372036854775807) : ∀ W : World, (Op.stringOp .add (strOfNums xs) t).run P W = .ok (.string (strOfNums (xs ++ btL t t.size))) W := by
  have := run_cat (P := P) xs (btL t t.size) (by rw [btL_length]; exact h)
  rw [strOf_btL] at this
  exact this

set_option maxRecDepth 20000 in
set_option maxHeartbeats 1000000 in
theorem one_any (k i n : Int) (t : ByteArray) (w : World) (h : blbE k i n t = 0) :
    Calls Try.prog 108 #[.agg #[.int .i64 k, .int .i64 i, .int .i64 n, .string t]] w fun e w' => e = .returned (.string (strOfNums (oneL k i n t))) ∧ Below w.heap.size w w' := by
  obtain ⟨k0, k1, i0, i1, n0, n1, hz⟩ := blbE_zero h
  clear h
  have u1 : IntKind.u64.wrap k = k := by rw [IntKind.wrap_u64]; omega
  have u2 : IntKind.u64.wrap i = i := by rw [IntKind.wrap_u64]; omega
  have u3 : IntKind.u64.wrap n = n := by rw [IntKind.wrap_u64]; omega
  have u4 : IntKind.u64.wrap (t.size : Int) = (t.size : Int) := by rw [IntKind.wrap_u64]; omega
  have D1 : Hid (∀ W, Calls Try.prog 87 #[.int .u64 k, .int .i64 1] W fun e w' => e = .returned (.string (strOfNums [k])) ∧ Below W.heap.size W w') := fun W => by
    have := fixr_any k 1 W (by omega) (by omega) (by omega) (by omega); rwa [fix1 (by omega) (by omega)] at this
  have D2 : Hid (∀ W, Calls Try.prog 87 #[.int .u64 i, .int .i64 1] W fun e w' => e = .returned (.string (strOfNums [i])) ∧ Below W.heap.size W w') := fun W => by
    have := fixr_any i 1 W (by omega) (by omega) (by omega) (by omega); rwa [fix1 (by omega) (by omega)] at this
  have D3 : Hid (∀ W, Calls Try.prog 87 #[.int .u64 n, .int .i64 1] W fun e w' => e = .returned (.string (strOfNums [n])) ∧ Below W.heap.size W w') := fun W => by
    have := fixr_any n 1 W (by omega) (by omega) (by omega) (by omega); rwa [fix1 (by omega) (by omega)] at this
  have D4 : Hid (∀ W, Calls Try.prog 103 #[.int .u64 (t.size : Int)] W fun e w' => e = .returned (.string (strOfNums (putL t.size))) ∧ Below W.heap.size W w') := fun W => putr_any 9 _ W (by omega) (fits7_top (by omega) (by omega)) (by omega) (by omega)
  have hl : (putL (t.size : Int)).length ≤ 10 := (putF_length 9 _).1
  have F : Hid (oneL k i n t = [k, i, n] ++ (putL t.size ++ btL t t.size)) := rfl
  generalize putL (t.size : Int) = PL at *
  have c1 := run_cat (P := Try.prog) [k] [i] (by simp)
  have c2 := run_cat (P := Try.prog) [k, i] [n] (by simp)
  have c3 := run_cat (P := Try.prog) [k, i, n] PL (by simp; omega)
  have c4 := cat_str (P := Try.prog) ([k, i, n] ++ PL) t (by simp; omega)
  rw [show [k] ++ [i] = [k, i] from rfl] at c1
  rw [show [k, i] ++ [n] = [k, i, n] from rfl] at c2
  rw [List.append_assoc, ← F.out] at c4
  simp only [List.cons_append, List.nil_append] at c3 c4
  obtain ⟨p0, p1, p2, p3⟩ := bbox4 w (.int .i64 k) (.int .i64 i) (.int .i64 n) (.string t) 71
  have HS : (w.alloc (.cells #[.int .i64 k, .int .i64 i, .int .i64 n, .string t] 71)).cell? ⟨w.heap.size, 0, none⟩ = some (.int .i64 k) ∧ (w.alloc (.cells #[.int .i64 k, .int .i64 i, .int .i64 n, .string t] 71)).cell? ⟨w.heap.size, 1, none⟩ = some (.int .i64 i) ∧ (w.alloc (.cells #[.int .i64 k, .int .i64 i, .int .i64 n, .string t] 71)).cell? ⟨w.heap.size, 2, none⟩ = some (.int .i64 n) ∧ (w.alloc (.cells #[.int .i64 k, .int .i64 i, .int .i64 n, .string t] 71)).cell? ⟨w.heap.size, 3, none⟩ = some (.string t) ∧ w.heap.size + 1 ≤ (w.alloc (.cells #[.int .i64 k, .int .i64 i, .int .i64 n, .string t] 71)).heap.size ∧ Below w.heap.size w (w.alloc (.cells #[.int .i64 k, .int .i64 i, .int .i64 n, .string t] 71)) :=
    ⟨p0, p1, p2, p3, by simp, (Below.refl _ _).alloc (Nat.le_refl _) _⟩
  obtain ⟨wa, hwa⟩ : ∃ wa, wa = w.alloc (.cells #[.int .i64 k, .int .i64 i, .int .i64 n, .string t] 71) := ⟨_, rfl⟩
  rw [← hwa] at HS
  have b0 : w.heap.size < w.heap.size + 1 := by omega
  clear p0 p1 p2 p3
  go_enter Try.func108, Try.ntmps108
  go_wp2
  rw [← hwa]
  clear hwa
  go_region_held3 (fun W => W.cell? ⟨w.heap.size, 0, none⟩ = some (.int .i64 k) ∧ W.cell? ⟨w.heap.size, 1, none⟩ = some (.int .i64 i) ∧ W.cell? ⟨w.heap.size, 2, none⟩ = some (.int .i64 n) ∧ W.cell? ⟨w.heap.size, 3, none⟩ = some (.string t) ∧ w.heap.size + 1 ≤ W.heap.size ∧ Below w.heap.size w W)
    (first | assumption | exact keepc4d (by assumption) | exact keepc4b b0 b0 b0 b0 (by assumption) (by assumption))
    (first
    | (go_at_call_of 87 (Value.int .u64 k); refine (D1.out _).mono ?_; rintro e w' ⟨rfl, hb⟩)
    | (go_at_call_of 87 (Value.int .u64 i); refine (D2.out _).mono ?_; rintro e w' ⟨rfl, hb⟩)
    | (go_at_call_of 87 (Value.int .u64 n); refine (D3.out _).mono ?_; rintro e w' ⟨rfl, hb⟩)
    | (go_at_call 103; refine (D4.out _).mono ?_; rintro e w' ⟨rfl, hb⟩))
  all_goals
    rename_i hHeld
    have hfin := keepc4w hHeld
    clear hHeld HS c1 c2 c3 c4 D1 D2 D3 D4
    go_wp2
    go_ret
    exact ⟨rfl, hfin⟩

set_option maxRecDepth 20000 in
set_option maxHeartbeats 1000000 in
theorem bwrr_false (A : Option Addr) (n c : Nat) (l : List BlobD) (w : World) (r : RowsIn w w.heap.size A n c BlobD.cells 4 l) :
    Calls Try.prog 95 #[.slice A n c, .bool false] w fun e w' => e = .returned (.tuple #[.string (strOfNums (blsS l 0)), .int .i64 (blsE l)]) ∧ Below w.heap.size w w' := by
  have hlen := r.len
  obtain rfl := hlen
  by_cases hL : 40 < l.length
  · have F := Lib.hid (bls_many 0 hL)
    have hL1 : (40 : Int) < (l.length : Int) := by omega
    go_enter Try.func95, Try.ntmps95
    go_wp2
    go_ret2
    exact ⟨ret_s2 (by rw [F.out.2]; rfl) F.out.1.symm, Below.refl _ _⟩
  · have hL1 : (l.length : Int) ≤ 40 := by omega
    have hL2 : l.length ≤ 40 := by omega
    have HL := Lib.hid hL
    clear hL
    have u0 : IntKind.u64.wrap (l.length : Int) = (l.length : Int) := by rw [IntKind.wrap_u64]; omega
    have CF : Hid (∀ W, Calls Try.prog 87 #[.int .u64 (l.length : Int), .int .i64 1] W fun e w' => e = .returned (.string (strOfNums [(l.length : Int)])) ∧ Below W.heap.size W w') := fun W => by
      have := fixr_any (l.length : Int) 1 W (by omega) (by omega) (by omega) (by omega); rwa [fix1 (by omega) (by omega)] at this
    have hcat0 : ∀ W : World, (Op.stringOp .add (⟨#[0]⟩ : ByteArray) (strOfNums [(l.length : Int)])).run Try.prog W = .ok (.string (strOfNums [0, (l.length : Int)])) W := run_cat (P := Try.prog) [0] [(l.length : Int)] (by simp)
    go_enter Try.func95, Try.ntmps95
    go_wp2
    go_loopw [6, 16] (fun v6 v16 wr => ∃ (j : Nat) (T : List Int), j ≤ l.length ∧ T.length ≤ 613 * j ∧ Hid (T = bodyL (l.take j)) ∧ Hid (chkL l = chkL (l.drop j)) ∧ v16 = .int .i64 j ∧ v6 = .string (strOfNums T) ∧ Below w.heap.size w wr) (fun _ v16 _ => l.length - (intOf v16).toNat)
    case atStart => exact ⟨0, [], Nat.zero_le _, by simp, rfl, rfl, rfl, rfl, Below.refl _ _⟩
    case round =>
      obtain ⟨j, T, hj, hTl, hT, hC, rfl, rfl, hb⟩ := hrel
      have hsz := hb.size
      have hts := strOfNums_size T
      by_cases hlt : j < l.length
      · have e1 := List.getElem?_eq_getElem hlt
        obtain ⟨b, o, rfl, hbB, hc⟩ := (r.below hb).at_ j _ e1
        have hp0 := hc 0 _ rfl
        have hp1 := hc 1 _ rfl
        have hp2 := hc 2 _ rfl
        have hp3 := hc 3 _ rfl
        simp only [Nat.add_zero] at hp0
        obtain ⟨pk, pi, pn, pt, hpe⟩ : ∃ pk pi pn pt, l[j] = (⟨pk, pi, pn, pt⟩ : BlobD) := ⟨_, _, _, _, rfl⟩
        rw [hpe] at e1 hp0 hp1 hp2 hp3
        have hp0 : wr.cell? ⟨b, o + j * 4, none⟩ = some (.int .i64 pk) := hp0
        have hp1 : wr.cell? ⟨b, o + j * 4 + 1, none⟩ = some (.int .i64 pi) := hp1
        have hp2 : wr.cell? ⟨b, o + j * 4 + 2, none⟩ = some (.int .i64 pn) := hp2
        have hp3 : wr.cell? ⟨b, o + j * 4 + 3, none⟩ = some (.string pt) := hp3
        clear hc hpe
        have hbl : b < wr.heap.size := by omega
        have HK : Hid (∀ W, Calls Try.prog 107 #[.agg #[.int .i64 pk, .int .i64 pi, .int .i64 pn, .string pt]] W fun e w' => e = .returned (.int .i64 (blbE pk pi pn pt)) ∧ Below W.heap.size W w') := fun W => blbr_any pk pi pn pt W
        by_cases hE : blbE pk pi pn pt = 0
        · obtain ⟨k0, k1, i0, i1, n0, n1, hz⟩ := blbE_zero hE
          have G : Hid (chkL l = chkL (l.drop (j + 1))) := hC.out.trans (chkL_go e1 hE)
          have GB := Lib.hid (bodyL_take e1)
          have hol := oneL_len pk pi pn pt
          have HK2 : Hid (∀ W, Calls Try.prog 107 #[.agg #[.int .i64 pk, .int .i64 pi, .int .i64 pn, .string pt]] W fun e w' => e = .returned (.int .i64 0) ∧ Below W.heap.size W w') := fun W => by have := HK.out W; rw [hE] at this; exact this
          have HO : Hid (∀ W, Calls Try.prog 108 #[.agg #[.int .i64 pk, .int .i64 pi, .int .i64 pn, .string pt]] W fun e w' => e = .returned (.string (strOfNums (oneL pk pi pn pt))) ∧ Below W.heap.size W w') := fun W => one_any pk pi pn pt W hE
          have c3 := run_cat (P := Try.prog) T (oneL pk pi pn pt) (by omega)
          generalize oneL pk pi pn pt = OL at *
          clear HK hE e1 hcat0
          go_wp2_with (first
            | (go_at_call 107; refine (HK2.out _).mono ?_; rintro e w1 ⟨rfl, hb1⟩; obtain ⟨q0, q1, q2, q3, q4⟩ := kept4 hb1)
            | (go_at_call 108; refine (HO.out _).mono ?_; rintro e w2 ⟨rfl, hb2⟩))
          go_roundw
          case rel => exact ⟨j + 1, T ++ OL, by omega, by simp; omega, by simp only [Hid]; rw [GB.out, hT.out], G, by go_num, rfl, ((hb.alloc hsz _).trans (hb1.mono (by simp; omega))).trans (hb2.mono (by omega))⟩
          case measure => simp [intOf]; omega
        · have G := Lib.hid (bls_chk 0 HL.out hE (hC.out.trans (chkL_bad e1 hE)))
          have hne : (blbE pk pi pn pt != 0) = true := bne_iff_ne.2 hE
          generalize blbE pk pi pn pt = pe at *
          clear hE e1 hcat0
          go_wp2_with (go_at_call 107; refine (HK.out _).mono ?_; rintro e w1 ⟨rfl, hb1⟩)
          go_ret2
          exact ⟨ret_s2 (by rw [G.out.2]; rfl) G.out.1.symm, (hb.alloc hsz _).trans (hb1.mono (by simp; omega))⟩
      · have hT' : T = bodyL l := by rw [hT.out, List.take_of_length_le (by omega)]
        have hck : chkL l = 0 := hC.out.trans (chkL_end (by omega))
        by_cases hbig : 998 < (bodyL l).length
        · have G := Lib.hid (bls_long 0 HL.out hck hbig)
          have h1 : (998 : Int) < (T.length : Int) := by rw [hT']; omega
          clear hck hbig hT' hcat0
          go_wp2
          go_ret2
          exact ⟨ret_s2 (by rw [G.out.2]; rfl) G.out.1.symm, hb⟩
        · have G := Lib.hid (bls_ok 0 HL.out hck hbig)
          have h1 : (T.length : Int) ≤ 998 := by rw [hT']; omega
          have HT := Lib.hid hT'
          have c3 := run_cat (P := Try.prog) [0, (l.length : Int)] T (by simp; omega)
          clear hck hbig hT'
          go_wp2_with (go_at_call 87; refine (CF.out _).mono ?_; rintro e w1 ⟨rfl, hb1⟩)
          go_ret2
          exact ⟨ret_s2 (by rw [G.out.2, HT.out]; try rfl) G.out.1.symm, hb.trans (hb1.mono hb.size)⟩

set_option maxRecDepth 20000 in
set_option maxHeartbeats 1000000 in
theorem bwrr_true (A : Option Addr) (n c : Nat) (l : List BlobD) (w : World) (r : RowsIn w w.heap.size A n c BlobD.cells 4 l) :
    Calls Try.prog 95 #[.slice A n c, .bool true] w fun e w' => e = .returned (.tuple #[.string (strOfNums (blsS l 1)), .int .i64 (blsE l)]) ∧ Below w.heap.size w w' := by
  have hlen := r.len
  obtain rfl := hlen
  by_cases hL : 40 < l.length
  · have F := Lib.hid (bls_many 1 hL)
    have hL1 : (40 : Int) < (l.length : Int) := by omega
    go_enter Try.func95, Try.ntmps95
    go_wp2
    go_ret2
    exact ⟨ret_s2 (by rw [F.out.2]; rfl) F.out.1.symm, Below.refl _ _⟩
  · have hL1 : (l.length : Int) ≤ 40 := by omega
    have hL2 : l.length ≤ 40 := by omega
    have HL := Lib.hid hL
    clear hL
    have u0 : IntKind.u64.wrap (l.length : Int) = (l.length : Int) := by rw [IntKind.wrap_u64]; omega
    have CF : Hid (∀ W, Calls Try.prog 87 #[.int .u64 (l.length : Int), .int .i64 1] W fun e w' => e = .returned (.string (strOfNums [(l.length : Int)])) ∧ Below W.heap.size W w') := fun W => by
      have := fixr_any (l.length : Int) 1 W (by omega) (by omega) (by omega) (by omega); rwa [fix1 (by omega) (by omega)] at this
    have hcat0 : ∀ W : World, (Op.stringOp .add (⟨#[1]⟩ : ByteArray) (strOfNums [(l.length : Int)])).run Try.prog W = .ok (.string (strOfNums [1, (l.length : Int)])) W := run_cat (P := Try.prog) [1] [(l.length : Int)] (by simp)
    go_enter Try.func95, Try.ntmps95
    go_wp2
    go_loopw [6, 16] (fun v6 v16 wr => ∃ (j : Nat) (T : List Int), j ≤ l.length ∧ T.length ≤ 613 * j ∧ Hid (T = bodyL (l.take j)) ∧ Hid (chkL l = chkL (l.drop j)) ∧ v16 = .int .i64 j ∧ v6 = .string (strOfNums T) ∧ Below w.heap.size w wr) (fun _ v16 _ => l.length - (intOf v16).toNat)
    case atStart => exact ⟨0, [], Nat.zero_le _, by simp, rfl, rfl, rfl, rfl, Below.refl _ _⟩
    case round =>
      obtain ⟨j, T, hj, hTl, hT, hC, rfl, rfl, hb⟩ := hrel
      have hsz := hb.size
      have hts := strOfNums_size T
      by_cases hlt : j < l.length
      · have e1 := List.getElem?_eq_getElem hlt
        obtain ⟨b, o, rfl, hbB, hc⟩ := (r.below hb).at_ j _ e1
        have hp0 := hc 0 _ rfl
        have hp1 := hc 1 _ rfl
        have hp2 := hc 2 _ rfl
        have hp3 := hc 3 _ rfl
        simp only [Nat.add_zero] at hp0
        obtain ⟨pk, pi, pn, pt, hpe⟩ : ∃ pk pi pn pt, l[j] = (⟨pk, pi, pn, pt⟩ : BlobD) := ⟨_, _, _, _, rfl⟩
        rw [hpe] at e1 hp0 hp1 hp2 hp3
        have hp0 : wr.cell? ⟨b, o + j * 4, none⟩ = some (.int .i64 pk) := hp0
        have hp1 : wr.cell? ⟨b, o + j * 4 + 1, none⟩ = some (.int .i64 pi) := hp1
        have hp2 : wr.cell? ⟨b, o + j * 4 + 2, none⟩ = some (.int .i64 pn) := hp2
        have hp3 : wr.cell? ⟨b, o + j * 4 + 3, none⟩ = some (.string pt) := hp3
        clear hc hpe
        have hbl : b < wr.heap.size := by omega
        have HK : Hid (∀ W, Calls Try.prog 107 #[.agg #[.int .i64 pk, .int .i64 pi, .int .i64 pn, .string pt]] W fun e w' => e = .returned (.int .i64 (blbE pk pi pn pt)) ∧ Below W.heap.size W w') := fun W => blbr_any pk pi pn pt W
        by_cases hE : blbE pk pi pn pt = 0
        · obtain ⟨k0, k1, i0, i1, n0, n1, hz⟩ := blbE_zero hE
          have G : Hid (chkL l = chkL (l.drop (j + 1))) := hC.out.trans (chkL_go e1 hE)
          have GB := Lib.hid (bodyL_take e1)
          have hol := oneL_len pk pi pn pt
          have HK2 : Hid (∀ W, Calls Try.prog 107 #[.agg #[.int .i64 pk, .int .i64 pi, .int .i64 pn, .string pt]] W fun e w' => e = .returned (.int .i64 0) ∧ Below W.heap.size W w') := fun W => by have := HK.out W; rw [hE] at this; exact this
          have HO : Hid (∀ W, Calls Try.prog 108 #[.agg #[.int .i64 pk, .int .i64 pi, .int .i64 pn, .string pt]] W fun e w' => e = .returned (.string (strOfNums (oneL pk pi pn pt))) ∧ Below W.heap.size W w') := fun W => one_any pk pi pn pt W hE
          have c3 := run_cat (P := Try.prog) T (oneL pk pi pn pt) (by omega)
          generalize oneL pk pi pn pt = OL at *
          clear HK hE e1 hcat0
          go_wp2_with (first
            | (go_at_call 107; refine (HK2.out _).mono ?_; rintro e w1 ⟨rfl, hb1⟩; obtain ⟨q0, q1, q2, q3, q4⟩ := kept4 hb1)
            | (go_at_call 108; refine (HO.out _).mono ?_; rintro e w2 ⟨rfl, hb2⟩))
          go_roundw
          case rel => exact ⟨j + 1, T ++ OL, by omega, by simp; omega, by simp only [Hid]; rw [GB.out, hT.out], G, by go_num, rfl, ((hb.alloc hsz _).trans (hb1.mono (by simp; omega))).trans (hb2.mono (by omega))⟩
          case measure => simp [intOf]; omega
        · have G := Lib.hid (bls_chk 1 HL.out hE (hC.out.trans (chkL_bad e1 hE)))
          have hne : (blbE pk pi pn pt != 0) = true := bne_iff_ne.2 hE
          generalize blbE pk pi pn pt = pe at *
          clear hE e1 hcat0
          go_wp2_with (go_at_call 107; refine (HK.out _).mono ?_; rintro e w1 ⟨rfl, hb1⟩)
          go_ret2
          exact ⟨ret_s2 (by rw [G.out.2]; rfl) G.out.1.symm, (hb.alloc hsz _).trans (hb1.mono (by simp; omega))⟩
      · have hT' : T = bodyL l := by rw [hT.out, List.take_of_length_le (by omega)]
        have hck : chkL l = 0 := hC.out.trans (chkL_end (by omega))
        by_cases hbig : 998 < (bodyL l).length
        · have G := Lib.hid (bls_long 1 HL.out hck hbig)
          have h1 : (998 : Int) < (T.length : Int) := by rw [hT']; omega
          clear hck hbig hT' hcat0
          go_wp2
          go_ret2
          exact ⟨ret_s2 (by rw [G.out.2]; rfl) G.out.1.symm, hb⟩
        · have G := Lib.hid (bls_ok 1 HL.out hck hbig)
          have h1 : (T.length : Int) ≤ 998 := by rw [hT']; omega
          have HT := Lib.hid hT'
          have c3 := run_cat (P := Try.prog) [1, (l.length : Int)] T (by simp; omega)
          clear hck hbig hT'
          go_wp2_with (go_at_call 87; refine (CF.out _).mono ?_; rintro e w1 ⟨rfl, hb1⟩)
          go_ret2
          exact ⟨ret_s2 (by rw [G.out.2, HT.out]; try rfl) G.out.1.symm, hb.trans (hb1.mono hb.size)⟩

end Go.Proofs.Ytjmgocfoimhmjaa
