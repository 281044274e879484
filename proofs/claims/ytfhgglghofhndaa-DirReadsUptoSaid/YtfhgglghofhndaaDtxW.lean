/- dir.Write and linenref.DirText, walked. -/
import Derived.Test.YtfhgglghofhndaaDirC
import Derived.Test.YtfhgglghofhndaaDtxP
import Derived.Test.YtfhgglghofhndaaBldK
import Derived.Test.YtfhgglghofhndaaFwhW
import Derived.Test.YtfhgglghofhndaaFixR
namespace Go.Proofs.Ytfhgglghofhndaa
open Go.RowKit Go.PlainAid

def DtPost (xs : List EntD) (w : World) (e : Ending) (w' : World) : Prop := e = .returned (.tuple #[.string (dirT xs), .int .i64 (dirE xs)]) ∧ Below w.heap.size w w'

/-- A builder at block B beside a struct's box at block bx. -/
structure DwK (B bx : Nat) (N : ByteArray) (I : Int) (w1 : World) (bs : List UInt8) (W : World) : Prop where
  bld : IsB B B (Lib.byteCells bs) W
  below : Below B w1 W
  box : W.heap[bx]? = some (.cells #[.string N, .int .i64 I] 41 (0, 0))
  ne : bx ≠ B
  size : B ≤ W.heap.size
  len : bs.length ≤ 400
theorem DwK.cells {B bx : Nat} {N : ByteArray} {I : Int} {w1 W : World} {bs : List UInt8} (h : DwK B bx N I w1 bs W) : W.cell? ⟨bx, 0, none⟩ = some (.string N) ∧ W.cell? ⟨bx, 1, none⟩ = some (.int .i64 I) := ⟨row_cell h.box 0, row_cell h.box 1⟩
theorem isB_lt {B b : Nat} {bs : List Value} {w : World} (h : IsB B b bs w) : b < w.heap.size := by
  rcases h with h | h <;> exact h.lt
theorem DwK.new {B : Nat} {N : ByteArray} {I : Int} {w1 wq : World} {bs : List UInt8} (h : IsB B B (Lib.byteCells bs) wq) (hb : Below B w1 wq) (hl : bs.length ≤ 400) : DwK B wq.heap.size N I w1 bs (wq.alloc (.cells #[.string N, .int .i64 I] 41)) := by
  have hlt := isB_lt h
  exact { bld := isB_below h ((Below.refl _ _).alloc (Nat.le_refl _) _), below := hb.alloc (by omega) _, box := heap_alloc_new wq _, ne := by omega, size := by simp; omega, len := hl }
theorem DwK.byte {B bx : Nat} {N : ByteArray} {I : Int} {w1 W : World} {bs : List UInt8} (h : DwK B bx N I w1 bs W) (k : Nat) (hk : k < 256) (hl : bs.length ≤ 390) :
    Calls Try.prog 60 #[.pointer (some ⟨B, 0, none⟩), .int .u8 k] W fun e w' => e = .returned .nilIface ∧ Hid (DwK B bx N I w1 (bs ++ [UInt8.ofNat k]) w') := by
  refine (bbyteK B B _ (k : Int) W h.bld (by rw [Lib.byteCells_length]; omega) h.size).mono ?_
  rintro e w' ⟨rfl, h1, h2, h3⟩
  refine ⟨rfl, { bld := ?_, below := h.below.trans h2, box := kept_row h3 h.box h.ne (by decide), ne := h.ne, size := Nat.le_trans h.size h2.size, len := by simp; omega }⟩
  rw [Lib.byteCells_append, byte1 hk]
  exact .inr h1
theorem DwK.str {B bx : Nat} {N : ByteArray} {I : Int} {w1 W : World} {bs : List UInt8} (h : DwK B bx N I w1 bs W) (t : ByteArray) (hl : bs.length + t.size ≤ 390) :
    Calls Try.prog 61 #[.pointer (some ⟨B, 0, none⟩), .string t] W fun e w' => e = .returned (.tuple #[.int .i64 t.size, .nilIface]) ∧ Hid (DwK B bx N I w1 (bs ++ bl t) w') := by
  refine (bwriteK B B _ t W h.bld (by rw [Lib.byteCells_length]; omega) h.size).mono ?_
  rintro e w' ⟨rfl, h1, h2, h3⟩
  refine ⟨rfl, { bld := ?_, below := h.below.trans h2, box := kept_row h3 h.box h.ne (by decide), ne := h.ne, size := Nat.le_trans h.size h2.size, len := by rw [List.length_append, bl_len]; omega }⟩
  rw [Lib.byteCells_append]
  exact .inr h1
set_option maxRecDepth 20000 in
set_option maxHeartbeats 1000000 in
theorem dwrite_any (A : Option Addr) (n c : Nat) (xs : List EntD) (w : World) (r : RowsIn w w.heap.size A n c EntD.cells 2 xs) :
    Calls Try.prog 25 #[.slice A n c] w (DtPost xs w) := by
  have hn := r.len
  subst hn
  have htop : (xs.length : Int) ≤ 9223372036854775807 := by have h1 := r.le; have h2 := r.top; unfold maxLen at h2; omega
  have HC := Lib.hid (dcheck_any A xs.length c xs w r)
  unfold DtPost
  by_cases hd : dirE xs = 0
  · obtain ⟨hl, hall⟩ := dir_zero hd
    have F := Lib.hid (dirT_ok hd)
    have hnm : ∀ x ∈ xs, x.Name.size ≤ 12 := fun x hx => (ent_size (hall x hx)).2
    have HA := Lib.hid hall
    have HT := Lib.hid (fun i => dirB_take (i := i) hnm hl)
    rw [hd] at HC ⊢
    rw [F.out]
    have hli : (xs.length : Int) ≤ 24 := by omega
    have HTE : Hid (dirB (xs.take xs.length) = dirB xs) := by rw [List.take_length]; simp [Hid]
    clear hd hall hnm
    go_enter Try.func25, Try.ntmps25
    go_wp2_with (go_at_call 29; refine HC.out.mono ?_; rintro e w1 ⟨rfl, hb1⟩; have HB1 := Lib.hid hb1; clear hb1)
    go_loopw [15] (fun v15 wr => ∃ i : Nat, i ≤ xs.length ∧ v15 = .int .i64 i ∧ Hid (IsB w1.heap.size w1.heap.size (Lib.byteCells (dirB (xs.take i))) wr ∧ Below w1.heap.size w1 wr)) (fun v15 _ => xs.length - (intOf v15).toNat)
    case atStart => exact ⟨0, Nat.zero_le _, rfl, bld_new w1, (Below.refl _ _).alloc (Nat.le_refl _) _⟩
    case round =>
      obtain ⟨i, hi, rfl, HR⟩ := hrel
      obtain ⟨wq, rfl⟩ : ∃ z : World, z = wr := ⟨_, rfl⟩
      by_cases hlt : i < xs.length
      · obtain ⟨x, e1⟩ : ∃ x, xs[i]? = some x := ⟨_, List.getElem?_eq_getElem hlt⟩
        have hil : (i : Int) < (xs.length : Int) := by omega
        have HS := Lib.hid (dirB_step e1)
        have hx := HA.out x (List.mem_of_getElem? e1)
        obtain ⟨z0, z1⟩ := ent_size hx
        obtain ⟨_, z2, z3⟩ := ent_zero hx
        have HBW := Lib.hid (HB1.out.trans (HR.out.2.mono HB1.out.size))
        obtain ⟨b, o, rfl, hbB, k0, k1⟩ := entCells (r.below HBW.out) e1
        have HT0 := Lib.hid (HT.out i)
        obtain ⟨N, I⟩ := x
        simp only at z0 z1 z2 z3 k0 k1
        obtain ⟨k, rfl⟩ : ∃ k : Nat, I = (k : Int) := ⟨I.toNat, by omega⟩
        have D0 : Hid (DwK w1.heap.size wq.heap.size N k w1 (dirB (xs.take i)) (wq.alloc (.cells #[.string N, .int .i64 k] 41))) := DwK.new HR.out.1 HR.out.2 (by have := HT0.out; omega)
        have hz1 : (N.size : Int) ≤ 12 := by omega
        have Z1 := Lib.hid z1
        have Z3 := Lib.hid z3
        obtain ⟨p0, p1⟩ := D0.out.cells
        clear e1 hx z0 z1 z2
        go_upto_region 9 with (go_at_call 60; refine (D0.out.byte N.size (by have := Z1.out; omega) (by have := HT0.out; omega)).mono ?_; rintro e w2 ⟨rfl, D1⟩; obtain ⟨q0, q1⟩ := D1.out.cells)
        go_upto_region 10 with (go_at_call 61; refine (D1.out.str N (by have := HT0.out; have := Z1.out; simp; omega)).mono ?_; rintro e w3 ⟨rfl, D2⟩; obtain ⟨q2, q3⟩ := D2.out.cells)
        go_upto_region 11 with (go_at_call 60; refine (D2.out.byte k (by have := Z3.out; omega) (by have := HT0.out; have := Z1.out; simp [bl_len]; omega)).mono ?_; rintro e w4 ⟨rfl, D3⟩)
        go_wp2
        go_roundw
        case rel =>
          refine ⟨i + 1, by omega, by go_num, ?_, D3.out.below⟩
          have h := D3.out.bld
          rw [HS.out]
          unfold entB
          simpa using h
        case measure => (simp [intOf]; try omega)
      · obtain rfl : i = xs.length := by omega
        have HIF := HR.out.1
        rw [HTE.out] at HIF
        have HST : Hid (Calls Try.prog 62 #[.pointer (some ⟨w1.heap.size, 0, none⟩)] wq fun e w' => e = .returned (.string (mkS (dirB xs))) ∧ Below w1.heap.size wq w') := by
          exact Try.Builder_String_any w1.heap.size w1.heap.size _ wq HIF HR.out.2.size
        have HBW := Lib.hid (HB1.out.trans (HR.out.2.mono HB1.out.size))
        clear HIF
        go_wp2_with (go_at_call 62; refine HST.out.mono ?_; rintro e w3 ⟨rfl, hb3⟩)
        go_ret2
        exact ⟨rfl, HBW.out.trans (hb3.mono HB1.out.size)⟩
  · have F := Lib.hid (dirT_bad hd)
    have hx2 : (dirE xs != 0) = true := bne_iff_ne.2 hd
    rw [F.out]
    clear hd F
    generalize dirE xs = E at *
    go_enter Try.func25, Try.ntmps25
    go_wp2_with (go_at_call 29; refine HC.out.mono ?_; rintro e w1 ⟨rfl, hb1⟩)
    go_ret2
    exact ⟨rfl, hb1⟩

set_option maxRecDepth 20000 in
set_option maxHeartbeats 1000000 in
theorem rtext_any (A : Option Addr) (n c : Nat) (xs : List EntD) (w : World) (r : RowsIn w w.heap.size A n c EntD.cells 2 xs) :
    Calls Try.prog 26 #[.slice A n c] w (DtPost xs w) := by
  have hn := r.len
  subst hn
  have htop : (xs.length : Int) ≤ 9223372036854775807 := by have h1 := r.le; have h2 := r.top; unfold maxLen at h2; omega
  have HC := Lib.hid (rdir_any A xs.length c xs w r)
  unfold DtPost
  by_cases hd : dirE xs = 0
  · obtain ⟨hl, hall⟩ := dir_zero hd
    have F := Lib.hid (dirT_ok hd)
    have hnm : ∀ x ∈ xs, x.Name.size ≤ 12 := fun x hx => (ent_size (hall x hx)).2
    have HA := Lib.hid hall
    have HT := Lib.hid (fun i => dirB_take (i := i) hnm hl)
    rw [hd] at HC ⊢
    rw [F.out]
    have hli : (xs.length : Int) ≤ 24 := by omega
    have HTE : Hid (dirB (xs.take xs.length) = dirB xs) := by rw [List.take_length]; simp [Hid]
    clear hd hall hnm
    go_enter Try.func26, Try.ntmps26
    go_wp2_with (go_at_call 30; refine HC.out.mono ?_; rintro e w1 ⟨rfl, hb1⟩; have HB1 := Lib.hid hb1; clear hb1)
    go_loopw [5, 15] (fun v5 v15 wr => ∃ i : Nat, i ≤ xs.length ∧ v15 = .int .i64 i ∧ v5 = .string (mkS (dirB (xs.take i))) ∧ Hid (Below w.heap.size w wr)) (fun _ v15 _ => xs.length - (intOf v15).toNat)
    case atStart => exact ⟨0, Nat.zero_le _, rfl, rfl, HB1.out⟩
    case round =>
      obtain ⟨i, hi, rfl, rfl, HR⟩ := hrel
      obtain ⟨wq, rfl⟩ : ∃ z : World, z = wr := ⟨_, rfl⟩
      by_cases hlt : i < xs.length
      · obtain ⟨x, e1⟩ : ∃ x, xs[i]? = some x := ⟨_, List.getElem?_eq_getElem hlt⟩
        have hil : (i : Int) < (xs.length : Int) := by omega
        have HS := Lib.hid (dirB_step e1)
        have hx := HA.out x (List.mem_of_getElem? e1)
        obtain ⟨z0, z1⟩ := ent_size hx
        obtain ⟨_, z2, z3⟩ := ent_zero hx
        obtain ⟨b, o, rfl, hbB, k0, k1⟩ := entCells (r.below HR.out) e1
        have HT0 := Lib.hid (HT.out i)
        obtain ⟨N, I⟩ := x
        simp only at z0 z1 z2 z3 k0 k1
        obtain ⟨k, rfl⟩ : ∃ k : Nat, I = (k : Int) := ⟨I.toNat, by omega⟩
        obtain ⟨wA, hwA⟩ : ∃ wA, wA = wq.alloc (.cells #[.string N, .int .i64 k] 41) := ⟨_, rfl⟩
        have hbA : Below wq.heap.size wq wA := by rw [hwA]; exact (Below.refl _ _).alloc (Nat.le_refl _) _
        have hrA : wA.heap[wq.heap.size]? = some (.cells #[.string N, .int .i64 k] 41 (0, 0)) := by rw [hwA]; exact heap_alloc_new wq _
        have HWA := Lib.hid hwA
        have HBA := Lib.hid (HR.out.trans (hbA.mono HR.out.size))
        have HRA := Lib.hid hrA
        have hz1 : (N.size : Int) ≤ 12 := by omega
        have hz3 : (k : Int) ≤ 47 := by omega
        have HFX : Hid (∀ (m : Nat) W, m < 256 → Calls Try.prog 63 #[.int .u64 m, .int .i64 1] W fun e w' => e = .returned (.string (mkS [UInt8.ofNat m])) ∧ Below W.heap.size W w') := fun m W hm => by
          have := fixr_any (m : Int) 1 W (by omega) (by omega) (by decide) (by decide)
          rw [fix1 hm] at this
          exact this
        have q1 := cat_mk (P := Try.prog) [UInt8.ofNat N.size] N (by simp; omega)
        have q2 := cat_mk (P := Try.prog) ([UInt8.ofNat N.size] ++ bl N) (mkS [UInt8.ofNat k]) (by rw [List.length_append, bl_len, mk_size]; simp; omega)
        have q3 := cat_mk (P := Try.prog) (dirB (xs.take i)) (mkS (([UInt8.ofNat N.size] ++ bl N) ++ [UInt8.ofNat k])) (by have := HT0.out; rw [mk_size, List.length_append, List.length_append, bl_len]; simp; omega)
        rw [bl_mk] at q2 q3
        have HE : Hid (dirB (xs.take i) ++ ([UInt8.ofNat N.size] ++ bl N ++ [UInt8.ofNat k]) = dirB (xs.take (i + 1))) := by
          show _ = _
          rw [HS.out]; unfold entB; simp
        rw [HE.out] at q3
        obtain ⟨bx, hbx⟩ : ∃ bx, bx = wq.heap.size := ⟨_, rfl⟩
        have hw1 : IntKind.u64.wrap (N.size : Int) = (N.size : Int) := u64_nonneg (by omega) (by omega)
        have hw2 : IntKind.u64.wrap (k : Int) = (k : Int) := u64_nonneg (by omega) (by omega)
        rw [← hbx] at hrA
        have p0 := row_cell hrA 0
        have p1 := row_cell hrA 1
        have hltA := row_lt hrA
        have HBX := Lib.hid hbx
        have H1 := Lib.hid z1
        have H3 := Lib.hid z3
        clear e1 hx z0 z1 z2 z3 hwA hbA hrA HRA HE
        generalize hO2 : mkS (dirB (xs.take (i + 1))) = OUT2 at *
        have HO2 := Lib.hid hO2
        clear hO2
        generalize mkS (dirB (xs.take i)) = OUT at *
        generalize hS1 : mkS ([UInt8.ofNat N.size] ++ bl N ++ [UInt8.ofNat k]) = S3 at *
        generalize hS2 : mkS ([UInt8.ofNat N.size] ++ bl N) = S12 at *
        clear hS1 hS2
        go_upto_region 8 with fail
        rw [← HWA.out, ← HBX.out]
        clear hbx
        have hS : wA.cell? ⟨bx, 0, none⟩ = some (.string N) ∧ wA.cell? ⟨bx, 1, none⟩ = some (.int .i64 k) ∧ wA.heap.size ≤ wA.heap.size ∧ Below w.heap.size w wA := ⟨p0, p1, Nat.le_refl _, HBA.out⟩
        go_region_held3 (fun W => W.cell? ⟨bx, 0, none⟩ = some (.string N) ∧ W.cell? ⟨bx, 1, none⟩ = some (.int .i64 k) ∧ wA.heap.size ≤ W.heap.size ∧ Below w.heap.size w W)
          (first | assumption | exact keepc2d (by assumption) | exact keepc2b hltA hltA (by assumption) (by assumption))
          ((go_at_call 63; refine (HFX.out _ _ (by have := H1.out; have := H3.out; omega)).mono ?_; rintro e w' ⟨rfl, hb⟩))
        all_goals
          rename_i hHeld
          have hfin := keepc2w hHeld
          go_wp2
          go_roundw
          case rel => exact ⟨i + 1, by omega, by go_num, by rw [HO2.out], hfin⟩
          case measure => (simp [intOf]; try omega)
      · obtain rfl : i = xs.length := by omega
        rw [HTE.out]
        go_wp2
        go_ret2
        exact ⟨rfl, HR.out⟩
  · have F := Lib.hid (dirT_bad hd)
    have hx2 : (dirE xs != 0) = true := bne_iff_ne.2 hd
    rw [F.out]
    clear hd F
    generalize dirE xs = E at *
    go_enter Try.func26, Try.ntmps26
    go_wp2_with (go_at_call 30; refine HC.out.mono ?_; rintro e w1 ⟨rfl, hb1⟩)
    go_ret2
    exact ⟨rfl, hb1⟩
end Go.Proofs.Ytfhgglghofhndaa
