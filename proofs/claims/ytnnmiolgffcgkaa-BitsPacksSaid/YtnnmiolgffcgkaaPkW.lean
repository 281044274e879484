/- bits' sink: put and end, walked. -/
import Derived.Test.YtnnmiolgffcgkaaPkP
import Derived.BigRegion
import Derived.BigQuiet
import Derived.Deep.QuietTactic
import Derived.Test.YtnnmiolgffcgkaaApp
import Derived.Test.YtnnmiolgffcgkaaBlk
import Derived.Test.YtnnmiolgffcgkaaCanonR
namespace Go.Proofs.Ytnnmiolgffcgkaa
open Go.RowKit Go.PlainAid

/-- The sink, in block B: the bytes that are whole, what is held, of how many bits. -/
structure SkS (B : Nat) (w : World) (A : Option Addr) (c : Nat) (L : List Int) (q : Nat) (hd n : Int) : Prop where
  row : w.heap[B]? = some (.cells #[.slice A q c, .int .u64 hd, .int .i64 n] 80 (0, 0))
  own : Owns w (B + 1) 1 (.slice A q c) q ((bytL L q).map (Value.int .u8))
theorem SkS.drew {B : Nat} {w : World} {A : Option Addr} {c : Nat} {L : List Int} {q : Nat} {hd n : Int} (h : SkS B w A c L q hd n) : SkS B w.drew A c L q hd n := ⟨h.row, h.own⟩
theorem SkS.held {B : Nat} {w : World} {A : Option Addr} {c : Nat} {L : List Int} {q : Nat} {hd n : Int} (h : SkS B w A c L q hd n) (u : Int) : SkS B (w.setCell ⟨B, 1, none⟩ (.int .u64 u)) A c L q u n :=
  ⟨row_store h.row, h.own.setOther (fun e => Nat.not_succ_le_self B (h.own.lt B e).1) _⟩
theorem SkS.num {B : Nat} {w : World} {A : Option Addr} {c : Nat} {L : List Int} {q : Nat} {hd n : Int} (h : SkS B w A c L q hd n) (u : Int) : SkS B (w.setCell ⟨B, 2, none⟩ (.int .i64 u)) A c L q hd u :=
  ⟨row_store h.row, h.own.setOther (fun e => Nat.not_succ_le_self B (h.own.lt B e).1) _⟩
theorem SkS.bits {B : Nat} {w : World} {A : Option Addr} {c : Nat} {L L' : List Int} {q : Nat} {hd n : Int} (h : SkS B w A c L q hd n) (e : bytL L' q = bytL L q) : SkS B w A c L' q hd n := ⟨h.row, by rw [e]; exact h.own⟩
theorem below_u {B : Nat} {w wr : World} (h : Below B w wr) (j : Nat) (u : Value) : Below B w (wr.setCell ⟨B, j, none⟩ u) := h.setCell (Nat.le_refl _) _

theorem info_u8P : (Try.prog.info? 5).map (fun i => (i.zero, i.size, i.bytes)) = some (some (.int .u8 0), 1, 1) := by kernel_rfl
def sinkN (w : World) (B : Nat) : Nat := match w.cell? ⟨B, 2, none⟩ with | some v => (intOf v).toNat | none => 0
theorem SkS.cells {B : Nat} {w : World} {A : Option Addr} {c : Nat} {L : List Int} {q : Nat} {hd n : Int} (h : SkS B w A c L q hd n) : w.cell? ⟨B, 0, none⟩ = some (.slice A q c) ∧ w.cell? ⟨B, 1, none⟩ = some (.int .u64 hd) ∧ w.cell? ⟨B, 2, none⟩ = some (.int .i64 n) ∧ w.frozen? ⟨B, 0, none⟩ = false ∧ w.frozen? ⟨B, 1, none⟩ = false ∧ w.frozen? ⟨B, 2, none⟩ = false ∧ B + 1 ≤ w.heap.size :=
  ⟨row_cell h.row 0, row_cell h.row 1, row_cell h.row 2, row_cold h.row 0, row_cold h.row 1, row_cold h.row 2, row_lt h.row⟩
theorem SkS.n_ {B : Nat} {w : World} {A : Option Addr} {c : Nat} {L : List Int} {q : Nat} {hd : Int} {n : Nat} (h : SkS B w A c L q hd (n : Int)) : sinkN w B = n := by
  unfold sinkN; rw [h.cells.2.2.1]; simp [intOf]
/-- A byte taken in: the append's world, and the slice laid. -/
theorem SkS.byte {B : Nat} {w w2 : World} {A A' : Option Addr} {c c' : Nat} {L : List Int} {q : Nat} {hd n : Int} {row : Option Nat} (h : SkS B w A c L q hd n) {b : Int} (hl : Left w w2 (B + 1) row) (ho : Owns w2 (B + 1) 1 (.slice A' (q + 1) c') (q + 1) ((bytL L q).map (Value.int .u8) ++ [.int .u8 b])) (hb : b = byteL L q) : SkS B (w2.setCell ⟨B, 0, none⟩ (.slice A' (q + 1) c')) A' c' L (q + 1) hd n :=
  ⟨row_store (row_left h.row hl (fun e => by have := hl.row_ge _ e; omega)), by
    rw [bytL_succ, List.map_append, ← hb]
    exact ho.setOther (fun e => Nat.not_succ_le_self B (ho.lt B e).1) _⟩

theorem and_32 (v : Int) (h0 : 0 ≤ v) (h1 : v < 2 ^ 64) : bits .and .u64 v 4294967295 = v % 4294967296 := by
  obtain ⟨n, rfl⟩ := Int.eq_ofNat_of_zero_le h0
  have h2 : n < 18446744073709551616 := by
    have : (2 : Int) ^ 64 = 18446744073709551616 := rfl
    omega
  have := u64_and_nat n 4294967295 h2 (by omega)
  rw [show ((4294967295 : Nat) : Int) = (4294967295 : Int) from rfl, show (4294967295 : Nat) = 2 ^ 32 - 1 from rfl, Nat.and_two_pow_sub_one_eq_mod] at this
  rw [this]; omega
def PutPost (L : List Int) (v : Int) (x B : Nat) (W : World) (e : Ending) (w' : World) : Prop := ∃ A' c' q', e = .returned (.tuple #[]) ∧ SkS B w' A' c' (L ++ pbits v x) q' (heldL (L ++ pbits v x) q') (((L ++ pbits v x).length - 8 * q' : Nat) : Int) ∧ 8 * q' ≤ (L ++ pbits v x).length ∧ (L ++ pbits v x).length - 8 * q' < 8 ∧ Below B W w'
structure PutSt (B : Nat) (W wr : World) (L2 L : List Int) (A : Option Addr) (c q : Nat) (v : Int) (x : Nat) : Prop where
  sk : SkS B wr A c L q (heldL L q) ((L.length - 8 * q : Nat) : Int)
  b01 : Bits01 L
  le : 8 * q ≤ L.length
  lt : L.length - 8 * q < 8
  v0 : 0 ≤ v
  v1 : v < 2 ^ x
  eq : L ++ pbits v x = L2
  bel : Below B W wr
  big : L.length + x ≤ 65536
theorem PutSt.again {B : Nat} {W w' : World} {L2 L : List Int} {A : Option Addr} {c q : Nat} {v : Int} {x : Nat} {e : Ending} (h : PutSt B W W L2 L A c q v x) (hx : 32 < x) (hp : PutPost L (v % 4294967296) 32 B W e w') : ∃ L' A' c' q', e = .returned (.tuple #[]) ∧ PutSt B W w' L2 L' A' c' q' (v / 4294967296) (x - 32) := by
  obtain ⟨A', c', q', he, hs, h1, h2, hb⟩ := hp
  have hm : pbits (v % 4294967296) 32 = pbits v 32 := pbits_mod 32 v
  have ha := pbits_add 32 (x - 32) v
  rw [show 32 + (x - 32) = x by omega] at ha
  have hp2 : (2 : Int) ^ x = 2 ^ (x - 32) * 4294967296 := by
    rw [show (4294967296 : Int) = 2 ^ 32 from rfl, ← Int.pow_add, show x - 32 + 32 = x by omega]
  have hv0 := h.v0
  have hv1 := h.v1
  rw [hp2] at hv1
  refine ⟨_, A', c', q', he, hs, h.b01.app (pbits_bit 32 _), h1, h2, by omega, Int.ediv_lt_of_lt_mul (by decide) hv1, ?_, hb, ?_⟩
  · rw [hm, List.append_assoc, show (4294967296 : Int) = 2 ^ 32 from rfl, ← ha]; exact h.eq
  · rw [List.length_append, pbits_len]; have := h.big; omega

set_option maxRecDepth 20000 in
set_option maxHeartbeats 1000000 in
theorem put_gen (L0 : List Int) (q0 : Nat) (A0 : Option Addr) (c0 : Nat) (v0 : Int) (x0 : Nat) (B : Nat) (W : World) (hst : PutSt B W W (L0 ++ pbits v0 x0) L0 A0 c0 q0 v0 x0) (hx0 : x0 ≤ 64) (h32 : 32 < x0 → Calls Try.prog 57 #[.pointer (some ⟨B, 0, none⟩), .int .u64 (v0 % 4294967296), .int .i64 32] W (PutPost L0 (v0 % 4294967296) 32 B W)) :
    Calls Try.prog 57 #[.pointer (some ⟨B, 0, none⟩), .int .u64 v0, .int .i64 x0] W (PutPost L0 v0 x0 B W) := by
  have H32 := Lib.hid h32
  have HST := Lib.hid hst
  unfold PutPost
  generalize L0 ++ pbits v0 x0 = L2 at *
  clear h32 hst
  go_enter Try.func57, Try.ntmps57
  go_wp2
  go_loopw [1, 2] (fun v1 v2 wr => ∃ (L : List Int) (A : Option Addr) (c q : Nat) (v : Int) (x : Nat), v1 = .int .u64 v ∧ v2 = .int .i64 x ∧ x ≤ 64 ∧ Hid (PutSt B W wr L2 L A c q v x) ∧ Hid (32 < x → v = v0 ∧ x = x0 ∧ wr = W ∧ L = L0)) (fun _ v2 _ => (intOf v2).toNat)
  case atStart => exact ⟨L0, A0, c0, q0, v0, x0, rfl, rfl, hx0, HST.out, fun _ => ⟨rfl, rfl, rfl, rfl⟩⟩
  case round =>
    obtain ⟨L, A, c, q, v, x, rfl, rfl, hx, HPS, HE⟩ := hrel
    clear HST
    by_cases hbigx : 32 < x
    · obtain ⟨rfl, rfl, rfl, rfl⟩ := HE.out hbigx
      have d1 := decide_eq_true (show (32 : Int) < (x : Int) by omega)
      have hv64 : v < 2 ^ 64 := by
        have h1 := HPS.out.v1
        have h2 : (2 : Nat) ^ x ≤ 2 ^ 64 := Nat.pow_le_pow_right (by omega) hx
        have h3 : ((2 ^ x : Nat) : Int) ≤ ((2 ^ 64 : Nat) : Int) := by exact_mod_cast h2
        have h4 : (2 : Int) ^ x ≤ 2 ^ 64 := by simpa using h3
        omega
      have hand := and_32 v HPS.out.v0 hv64
      have HCALL := Lib.hid (H32.out hbigx)
      have HAG := Lib.hid (fun (e : Ending) (w' : World) hp => HPS.out.again hbigx (e := e) (w' := w') hp)
      have hv0 := HPS.out.v0
      have hx32 : x - 32 ≤ 64 := by omega
      have HXE : Hid (((x - 32 : Nat) : Int) = (x : Int) - 32) := by simp only [Hid]; omega
      clear hv64
      go_wp2_with (go_at_call 57; refine HCALL.out.mono ?_; rintro e w' hp; obtain ⟨L', A', c', q', rfl, hst'⟩ := HAG.out _ _ hp; have HS' := Lib.hid hst'; clear hst' hp)
      refine ⟨⟨L', A', c', q', v / 4294967296, x - 32, by go_num, ?_, hx32, HS'.out, fun h => by omega⟩, ?_⟩
      · rw [HXE.out]
      · simp [intOf]; omega
    · have hx : x ≤ 32 := by omega
      obtain ⟨wo, rfl⟩ : ∃ wo : World, wo = wr := ⟨_, rfl⟩
      have h := HPS.out.sk
      have hL := HPS.out.b01
      have hq := HPS.out.le
      have hn := HPS.out.lt
      have hv0 := HPS.out.v0
      have hv1 := HPS.out.v1
      have hbig := HPS.out.big
      have HBEL := Lib.hid HPS.out.bel
      obtain ⟨n, hnn⟩ : ∃ n, n = L.length - 8 * q := ⟨_, rfl⟩
      have hL2 := HPS.out.eq.symm
      have hl2 : L2.length = L.length + x := by rw [hL2, List.length_append, pbits_len]
      have hh := held_bd hL q
      have HA : Hid (heldL L2 q = heldL L q + v * 2 ^ n) := by simp only [Hid]; rw [hL2, held_app hq, horn_pbits x v hv0 hv1, hnn]
      have hor := or_shiftP (heldL L q) v n x hh.1 (by rw [hnn]; exact hh.2) hv0 hv1 (by omega)
      rw [← HA.out] at hor
      have HB2 : Hid (Bits01 L2) := by simp only [Hid]; rw [hL2]; exact hL.app (pbits_bit x v)
      have HQ : Hid (bytL L2 q = bytL L q) := by simp only [Hid]; rw [hL2, bytL_app hq]
      rw [← hnn] at h hn
      have hnx : L2.length - 8 * q = n + x := by omega
      have HX := Lib.hid hnx
      have HH := Lib.hid h
      have c0 := (row_cell h.row 0)
      have c1 := (row_cell h.row 1)
      have c2 := (row_cell h.row 2)
      have f1 := row_cold h.row 1
      have f2 := row_cold h.row 2
      simp only [List.getElem?_toArray, List.getElem?_cons_zero, List.getElem?_cons_succ] at c0 c1 c2
      have HL2 := Lib.hid hL2
      have HL3 := Lib.hid hl2
      have hS : Hid (∀ m, SkS B (((wo.drewN m).setCell ⟨B, 1, none⟩ (.int .u64 (heldL L2 q))).setCell ⟨B, 2, none⟩ (.int .i64 ((n + x : Nat) : Int))) A c L2 q (heldL L2 q) ((n + x : Nat) : Int)) := fun m => ((SkS.held (w := wo.drewN m) ⟨h.row, h.own⟩ _).num _).bits HQ.out
      have hqb : 8 * q ≤ L2.length := by omega
      have hl65 : L2.length ≤ 65536 := by omega
      have HQB := Lib.hid hqb
      clear hL2 hl2 hh hnn hq hL hbig hnx hv0 hv1
      generalize heldL L q = h0 at *
      have d1 := decide_eq_false (show ¬ (32 : Int) < (x : Int) by omega)
      generalize hhX : heldL L2 q = hX at *
      have HHX := Lib.hid hhX
      clear hhX
      go_wp2
      go_region_law (fail)
      all_goals
        obtain ⟨w5, hw5⟩ : ∃ w5, w5 = (wo.setCell ⟨B, 1, none⟩ (.int .u64 hX)).drew := ⟨_, rfl⟩
        rw [← hw5]
        have HS5 : Hid (SkS B w5 A c L2 q hX (n : Int)) := by simp only [Hid]; rw [hw5]; exact ((HH.out.held hX).bits HQ.out).drew
        have HB5 : Hid (Below B wo w5) := by simp only [Hid]; rw [hw5]; exact (below_u (Below.refl _ _) 1 _).drew
        obtain ⟨k0, k1, k2, g0, g1, g2, hz5⟩ := HS5.out.cells
        have HS6 := Lib.hid (HS5.out.num ((n + x : Nat) : Int))
        have HB6 := Lib.hid (below_u HB5.out 2 (.int .i64 ((n + x : Nat) : Int)))
        rw [show ((n + x : Nat) : Int) = (n : Int) + (x : Int) by omega] at HS6 HB6
        clear hw5 c0 c1 c2 f1 f2 hor hS HH
        go_wp2
        clear k0 k1 k2 g0 g1 g2
        have HNX : Hid ((n : Int) + (x : Int) = ((L2.length - 8 * q : Nat) : Int)) := by have := HX.out; simp only [Hid]; omega
        go_loopw [] (fun wz => ∃ (A' : Option Addr) (c' q' : Nat), 8 * q' ≤ L2.length ∧ Hid (SkS B wz A' c' L2 q' (heldL L2 q') ((L2.length - 8 * q' : Nat) : Int)) ∧ Hid (Below B wo wz)) (fun wz => sinkN wz B)
        case atStart => exact ⟨A, c, q, HQB.out, by simp only [Hid]; rw [HHX.out, ← HNX.out]; exact HS6.out, HB6.out⟩
        case round =>
          obtain ⟨A', c', q', hq', HS, HB⟩ := hrel
          have HSN := Lib.hid HS.out.n_
          obtain ⟨k0, k1, k2, g0, g1, g2, hz⟩ := HS.out.cells
          clear HS5 HB5 HS6 HB6 HNX
          have hh' := held_bd HB2.out q'
          by_cases h8 : 8 ≤ L2.length - 8 * q'
          · obtain ⟨hm, hdv⟩ := held_step HB2.out (q := q') (by omega)
            have hN2 : L2.length - 8 * (q' + 1) = L2.length - 8 * q' - 8 := by omega
            have HN2 := Lib.hid hN2
            have HQ2 : Hid (8 * (q' + 1) ≤ L2.length) := by simp only [Hid]; omega
            have hq65 : q' ≤ 8192 := by omega
            have hn65 : L2.length - 8 * q' ≤ 65536 := by omega
            have HM := Lib.hid hm
            have HDV := Lib.hid hdv
            obtain ⟨n', hn'⟩ : ∃ n', n' = L2.length - 8 * q' := ⟨_, rfl⟩
            rw [← hn'] at k2 HS HSN HN2 hh' h8 hn65
            have HNN := Lib.hid hn'
            have h640 : (0 : Int) ≤ heldL L2 q' := hh'.1
            have hown := HS.out.own
            have RNE : Hid (Value.ownBlock (.slice A' q' c') ≠ some B) := fun e => Nat.not_succ_le_self B (hown.lt B e).1
            generalize heldL L2 q' = h' at *
            obtain ⟨b, hb⟩ : ∃ b, b = h' % 256 := ⟨_, rfl⟩
            have hwb : IntKind.u8.wrap h' = b := by rw [IntKind.wrap_u8, hb]
            have G2 : Hid (∀ u ∈ (#[.int .u8 b] : Array Value).toList, u.oneCell' = true) := by simp [Hid, Value.oneCell']
            have G3 : Hid (q' + 1 ≤ maxLen ∧ (q' + 1) * 1 ≤ 140737488355328) := by unfold maxLen Hid; omega
            have G4 : Hid (0 < 1) := by simp [Hid]
            obtain ⟨U, hU⟩ : ∃ U, U = (bytL L2 q').map (Value.int .u8) := ⟨_, rfl⟩
            rw [← hU] at hown
            have HU := Lib.hid hU
            have HBB : Hid (b = byteL L2 q') := by simp only [Hid]; rw [hb]; exact HM.out
            have GO : Hid (Owns (wr.alloc (.cells #[.int .u8 b] 5)).drew (B + 1) 1 (.slice A' q' c') q' U) := (hown.alloc _).drew
            have GB : Hid (B + 1 ≤ (wr.alloc (.cells #[.int .u8 b] 5)).drew.heap.size) := by simp [Hid]; omega
            have GH : Hid ((wr.alloc (.cells #[.int .u8 b] 5)).drew.heap[wr.heap.size]? = some (.cells #[.int .u8 b] 5)) := heap_alloc_new wr _
            have HSA : Hid (SkS B (wr.alloc (.cells #[.int .u8 b] 5)).drew A' c' L2 q' h' (n' : Int)) := ⟨(heap_alloc_old wr _ (by omega)).trans HS.out.row, (HS.out.own.alloc _).drew⟩
            have HBA : Hid (Below B wo (wr.alloc (.cells #[.int .u8 b] 5)).drew) := (HB.out.alloc (by omega) _).drew
            have HLT : Hid (B < (wr.alloc (.cells #[.int .u8 b] 5)).drew.heap.size) := by simp [Hid]; omega
            have ka := HSA.out.cells.1
            clear hn' hown hU hb hm hdv hN2 hh'
            go_wp2
            go_region_law
              (refine step_app1 (P := Try.prog) (e := 5) (z := .int .u8 0) (size := 1) (bytes := 1) (base := B + 1) rfl (.tmp 46) (.tmp 52) 78 rfl Try.underlying78 info_u8P rfl G4.out A' q' c' U (by simp [go_sem]) GO.out GB.out wr.heap.size 1 #[.int .u8 b] 5 (by simp [go_sem]) GH.out rfl G2.out G3.out.1 G3.out.2 ?_; intro A3 c3 w6 hown6 hl6 hn6; have kk := hl6.cell HSA.out.cells.1 RNE.out; have gg := (hl6.frozen (p := ⟨B, 0, none⟩) HLT.out RNE.out).trans HSA.out.cells.2.2.2.1)
            all_goals
              have HS7 : Hid (SkS B (w6.setCell ⟨B, 0, none⟩ (.slice A3 (q' + 1) c3)) A3 c3 L2 (q' + 1) h' (n' : Int)) := SkS.byte HSA.out hl6 (by rw [← HU.out]; exact hown6) HBB.out
              have HB7 : Hid (Below B wo (w6.setCell ⟨B, 0, none⟩ (.slice A3 (q' + 1) c3))) := below_u (hl6.below (Nat.le_succ B) HBA.out) 0 _
              obtain ⟨w7, hw7⟩ : ∃ w7, w7 = w6.setCell ⟨B, 0, none⟩ (.slice A3 (q' + 1) c3) := ⟨_, rfl⟩
              rw [← hw7] at HS7 HB7 ⊢
              clear hw7 hown6 hl6 hn6 kk gg ka GO GB GH HSA HBA HLT G2 G3 G4 k0 k1 k2 g0 g1 g2 hz hwb
              obtain ⟨k0, k1, k2, g0, g1, g2, hz⟩ := HS7.out.cells
              have HS8 := Lib.hid ((HS7.out.held (h' / 256)).num (((n' - 8 : Nat) : Int)))
              have HB8 := Lib.hid (below_u (below_u HB7.out 1 (.int .u64 (h' / 256))) 2 (.int .i64 ((n' - 8 : Nat) : Int)))
              have HN8 : Hid (((n' - 8 : Nat) : Int) = (n' : Int) - 8) := by simp only [Hid]; omega
              have HSM := Lib.hid HS8.out.n_
              rw [HN8.out] at HS8 HB8 HSM
              go_wp2
              refine ⟨⟨A3, c3, q' + 1, HQ2.out, ?_, HB8.out⟩, ?_⟩
              · rw [HN2.out, ← HDV.out, HN8.out]; exact HS8.out
              · rw [HSM.out, HSN.out]; omega
          · have d8 := decide_eq_false (show ¬ (8 : Int) ≤ ((L2.length - 8 * q' : Nat) : Int) by omega)
            have d9 := decide_eq_false (show ¬ 8 ≤ L2.length - 8 * q' by omega)
            have HL8 : Hid (L2.length - 8 * q' < 8) := by simp only [Hid]; omega
            obtain ⟨n', hn'⟩ : ∃ n', n' = L2.length - 8 * q' := ⟨_, rfl⟩
            rw [← hn'] at k2 d8 d9
            have HNN := Lib.hid hn'
            clear hn' HSN hh'
            go_wp2
            go_end0
            exact ⟨A', c', q', rfl, HS.out, hq', HL8.out, HBEL.out.trans HB.out⟩
theorem put_any (L : List Int) (q : Nat) (A : Option Addr) (c : Nat) (v : Int) (x : Nat) (B : Nat) (W : World) (h : PutSt B W W (L ++ pbits v x) L A c q v x) (hx : x ≤ 64) :
    Calls Try.prog 57 #[.pointer (some ⟨B, 0, none⟩), .int .u64 v, .int .i64 x] W (PutPost L v x B W) :=
  put_gen L q A c v x B W h hx fun hx2 => put_gen L q A c (v % 4294967296) 32 B W ⟨h.sk, h.b01, h.le, h.lt, by omega, by have : (2 : Int) ^ 32 = 4294967296 := rfl; omega, rfl, Below.refl _ _, by have := h.big; omega⟩ (by omega) fun h3 => by omega
end Go.Proofs.Ytnnmiolgffcgkaa
