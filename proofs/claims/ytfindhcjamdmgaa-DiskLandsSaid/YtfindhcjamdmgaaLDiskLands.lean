/- The law DiskLands, walked: it returns true for every disk and every list of what is kept. -/
import Derived.Test.YtfindhcjamdmgaaCrashW
import Derived.Test.YtfindhcjamdmgaaLandR
import Derived.Test.YtfindhcjamdmgaaSameD
import Derived.Deep.RegionHeld3
namespace Go.Proofs.Ytfindhcjamdmgaa.lDiskLands
open Go.RowKit

theorem cf_law : ∀ (args : Array Value) (W : World), (callFunc 33 args).run Try.prog W = .ok (.enter 33 args) W := fun args W => by kernel_rfl
theorem cf_every : ∀ (args : Array Value) (W : World), (callFunc 29 args).run Try.prog W = .ok (.enter 29 args) W := fun args W => by kernel_rfl
set_option maxHeartbeats 400000 in
theorem keeps_every (B : Nat) (w : World) (N : Nat) : Keeps 29 #[] B w N allB := fun i W _ _ => by
  show Calls Try.prog 29 #[.int .i64 (i : Int)] W _
  go_enter Try.func29, Try.ntmps29
  go_wp2
  go_ret
  exact ⟨rfl, Below.refl _ _⟩
set_option maxRecDepth 20000 in
set_option maxHeartbeats 400000 in
theorem law1_any (i : Nat) (p : Nat) (A : Option Addr) (n c : Nat) (ks : List Bool) (B : Nat) (W : World) (hp : W.cell? ⟨p, 0, none⟩ = some (.slice A n c)) (r : RowsIn W B A n c (fun z => [.bool z]) 1 ks) :
    Calls Try.prog 33 #[.int .i64 (i : Int), .pointer (some ⟨p, 0, none⟩)] W fun e w' => e = .returned (.bool (keepB ks i)) ∧ Below W.heap.size W w' := by
  have hlen := r.len
  obtain rfl := hlen
  have htop := r.top
  have hle := r.le
  unfold maxLen at htop
  by_cases hlt : i < ks.length
  · have e1 := List.getElem?_eq_getElem hlt
    obtain ⟨b, o, rfl, hb, hc⟩ := r.one e1
    have F : Hid (keepB ks i = ks[i]) := by simp only [Hid]; unfold keepB; simp [List.getD_eq_getElem?_getD, e1]
    have i1 : (i : Int) < (ks.length : Int) := by omega
    generalize ks[i] = x at *
    clear e1
    cases x
    all_goals
      go_enter Try.func33, Try.ntmps33
      go_wp2
      go_ret
      exact ⟨by rw [F.out]; rfl, Below.refl _ _⟩
  · have F : Hid (keepB ks i = false) := by simp only [Hid]; unfold keepB; simp [List.getD_eq_getElem?_getD, List.getElem?_eq_none (show ks.length ≤ i by omega)]
    have i1 : decide ((i : Int) < (ks.length : Int)) = false := by simp; omega
    have i2 : ¬ (i : Int) < (ks.length : Int) := by omega
    go_enter Try.func33, Try.ntmps33
    go_wp2
    go_ret
    exact ⟨by rw [F.out]; rfl, Below.refl _ _⟩
theorem keeps_law (p : Nat) (A : Option Addr) (n c : Nat) (ks : List Bool) (B N : Nat) (w : World) (hp : w.cell? ⟨p, 0, none⟩ = some (.slice A n c)) (hpB : p < B) (r : RowsIn w B A n c (fun z => [.bool z]) 1 ks) : Keeps 33 #[.pointer (some ⟨p, 0, none⟩)] B w N (keepB ks) := fun i W _ hb =>
  law1_any i p A n c ks B W ((hb.cell (p := ⟨p, 0, none⟩) hpB).trans hp) (r.below hb)
theorem on_alloc {W W' : World} {o : Obj} {p : Addr} {v : Value} (h : W.cell? p = some v) (hp : p.block < W.heap.size) (hb : Below (W.alloc o).heap.size (W.alloc o) W') : W'.cell? p = some v :=
  (hb.cell (p := p) (by simp; omega)).trans ((World.cell?_alloc_lt W o p hp).trans h)
theorem on_below {W W' : World} {p : Addr} {v : Value} (h : W.cell? p = some v) (hp : p.block < W.heap.size) (hb : Below W.heap.size W W') : W'.cell? p = some v := (hb.cell (p := p) hp).trans h
theorem carry_rows2 {α : Type} {enc : α → List Value} {k n c : Nat} {A : Option Addr} {xs : List α} {W W' : World} {o : Obj} (r : RowsIn W W.heap.size A n c enc k xs) (hb : Below (W.alloc o).heap.size (W.alloc o) W') : RowsIn W' W'.heap.size A n c enc k xs :=
  (((r.alloc (Nat.le_refl _) o).more (by simp)).below hb).more hb.size
theorem keep8w {W W0 : World} {H : Nat} {a0 a1 a2 a3 a4 a5 a6 a7 : Addr} {v0 v1 v2 v3 v4 v5 v6 v7 : Value} (h : W.cell? a0 = some v0 ∧ W.cell? a1 = some v1 ∧ W.cell? a2 = some v2 ∧ W.cell? a3 = some v3 ∧ W.cell? a4 = some v4 ∧ W.cell? a5 = some v5 ∧ W.cell? a6 = some v6 ∧ W.cell? a7 = some v7 ∧ Below H W0 W ∧ H ≤ W.heap.size) : Below H W0 W := h.2.2.2.2.2.2.2.2.1
theorem rows_up {α : Type} {enc : α → List Value} {k n c : Nat} {A : Option Addr} {xs : List α} {W W' : World} (r : RowsIn W W.heap.size A n c enc k xs) (hb : Below W.heap.size W W') : RowsIn W' W'.heap.size A n c enc k xs := (r.below hb).more hb.size
theorem no_puts (w : World) (B : Nat) : RowsIn w B none 0 0 PutD.cells 2 ([] : List PutD) := ⟨rfl, Nat.le_refl _, Nat.zero_le _, fun i x h => by simp at h⟩

set_option maxRecDepth 20000 in
set_option maxHeartbeats 2000000 in
theorem walk (A : Option Addr) (n c : Nat) (cs : List ByteArray) (A' : Option Addr) (n' c' : Nat) (ws : List PutD) (Ak : Option Addr) (nk ck : Nat) (ks : List Bool) (w : World) (r : RowsIn w w.heap.size A n c (fun z => [.string z]) 1 cs) (_o0 : ∀ z ∈ cs, (fun z => z.size ≤ maxLen) z) (_s0 : c * 16 ≤ 140737488351232) (r' : RowsIn w w.heap.size A' n' c' PutD.cells 2 ws) (_o1 : ∀ z ∈ ws, PutD.ok z) (_s1 : c' * 24 ≤ 140737488351232) (rk : RowsIn w w.heap.size Ak nk ck (fun z => [.bool z]) 1 ks) (_o2 : ∀ z ∈ ks, (fun _ => True) z) (_s2 : ck * 1 ≤ 140737488351232) :
    Calls Try.prog 6 #[.agg #[.slice A n c, .slice A' n' c'], .slice Ak nk ck] w fun e w' => e = .returned (.bool true) ∧ Below w.heap.size w w' := by
  clear _o0 _s0 _o1 _s1 _o2 _s2
  obtain ⟨wa, hwa⟩ : ∃ wa, wa = (w.alloc (.cells #[.slice A n c, .slice A' n' c'] 43)).alloc (.cells #[.slice Ak nk ck] 57) := ⟨_, rfl⟩
  have hza : wa.heap.size = w.heap.size + 2 := by rw [hwa]; simp
  have hba : Below w.heap.size w wa := by rw [hwa]; exact ((Below.refl _ _).alloc (Nat.le_refl _) _).alloc (by simp) _
  have hrk : wa.heap[w.heap.size + 1]? = some (.cells #[.slice Ak nk ck] 57 (0, 0)) := by
    rw [hwa]
    have := heap_alloc_new (w.alloc (.cells #[.slice A n c, .slice A' n' c'] 43)) (.cells #[.slice Ak nk ck] 57)
    rw [show (w.alloc (.cells #[.slice A n c, .slice A' n' c'] 43)).heap.size = w.heap.size + 1 by simp] at this
    exact this
  have hrb : wa.heap[w.heap.size]? = some (.cells #[.slice A n c, .slice A' n' c'] 43 (0, 0)) := by
    rw [hwa]; exact (heap_alloc_old _ _ (by simp)).trans (heap_alloc_new w _)
  have hle : w.heap.size ≤ wa.heap.size := by omega
  have ra := (r.below hba).more hle
  have ra' := (r'.below hba).more hle
  have rak := (rk.below hba).more hle
  have hck : wa.cell? ⟨w.heap.size + 1, 0, none⟩ = some (.slice Ak nk ck) := row_cell hrk 0
  have hc0 : wa.cell? ⟨w.heap.size, 0, none⟩ = some (.slice A n c) := row_cell hrb 0
  have hc1 : wa.cell? ⟨w.heap.size, 1, none⟩ = some (.slice A' n' c') := row_cell hrb 1
  have HD : Hid (∀ W, Below wa.heap.size wa W → W.cell? ⟨w.heap.size, 0, none⟩ = some (.slice A n c) ∧ W.cell? ⟨w.heap.size, 1, none⟩ = some (.slice A' n' c') ∧ W.cell? ⟨w.heap.size + 1, 0, none⟩ = some (.slice Ak nk ck) ∧ w.heap.size < W.heap.size ∧ w.heap.size + 1 < W.heap.size) := fun W h =>
    ⟨(h.cell (p := ⟨w.heap.size, 0, none⟩) (show w.heap.size < wa.heap.size by omega)).trans hc0, (h.cell (p := ⟨w.heap.size, 1, none⟩) (show w.heap.size < wa.heap.size by omega)).trans hc1, (h.cell (p := ⟨w.heap.size + 1, 0, none⟩) (show w.heap.size + 1 < wa.heap.size by omega)).trans hck, by have := h.size; omega, by have := h.size; omega⟩
  have H1 : Hid (∀ W, Below wa.heap.size wa W → Calls Try.prog 30 #[.agg #[.slice A n c, .slice A' n' c']] W (SyPost allB cs ws W)) := fun W h => sync_any A n c cs A' n' c' ws W ((ra.below h).more h.size) ((ra'.below h).more h.size)
  have H2 : Hid (∀ W, Below wa.heap.size wa W → Calls Try.prog 31 #[.agg #[.slice A n c, .slice A' n' c'], .slice Ak nk ck] W (SyPost (keepB ks) cs ws W)) := fun W h => crash_any Ak nk ck ks A n c cs A' n' c' ws W ((ra.below h).more h.size) ((ra'.below h).more h.size) ((rak.below h).more h.size)
  have H3 : Hid (∀ W, Below wa.heap.size wa W → Calls Try.prog 27 #[.agg #[.slice A n c, .slice A' n' c']] W fun e w' => e = .returned (.int .i64 (dskE cs ws)) ∧ Below W.heap.size W w') := fun W h => dskr_any A n c cs A' n' c' ws W ((ra.below h).more h.size) ((ra'.below h).more h.size)
  have H6 := Lib.hid @samed_any
  unfold SyPost at H1 H2
  have HWA := Lib.hid hwa
  have HBA := Lib.hid hba
  by_cases hE : dskE cs ws = 0
  · have hx1 : syncX allB cs ws = landL allB cs ws := by unfold syncX; rw [if_pos hE]
    have hx2 : syncX (keepB ks) cs ws = landL (keepB ks) cs ws := by unfold syncX; rw [if_pos hE]
    obtain ⟨z1, z2, _, z3, z4⟩ := dsk_zero hE
    rw [hx1, hE] at H1
    rw [hx2, hE] at H2
    rw [hE] at H3
    have H4 : Hid (∀ W, Below wa.heap.size wa W → Calls Try.prog 32 #[.agg #[.slice A n c, .slice A' n' c'], .func (.func 33) #[] #[.pointer (some ⟨w.heap.size + 1, 0, none⟩)]] W fun e w' => ∃ D d, e = .returned (.agg #[.slice D cs.length d, .slice none 0 0]) ∧ Owns w' W.heap.size 1 (.slice D cs.length d) cs.length ((landL (keepB ks) cs ws).map Value.string) ∧ Below W.heap.size W w') := fun W hW =>
      landr_any _ #[.pointer (some ⟨w.heap.size + 1, 0, none⟩)] (keepB ks) A n c cs A' n' c' ws W ((ra.below hW).more hW.size) ((ra'.below hW).more hW.size) z2 z4 (keeps_law _ Ak nk ck ks _ _ W ((hW.cell (p := ⟨w.heap.size + 1, 0, none⟩) (show w.heap.size + 1 < wa.heap.size by omega)).trans hck) (by have := hW.size; omega) ((rak.below hW).more hW.size)) cf_law
    have H5 : Hid (∀ W, Below wa.heap.size wa W → Calls Try.prog 32 #[.agg #[.slice A n c, .slice A' n' c'], .func (.func 29) #[] #[]] W fun e w' => ∃ D d, e = .returned (.agg #[.slice D cs.length d, .slice none 0 0]) ∧ Owns w' W.heap.size 1 (.slice D cs.length d) cs.length ((landL allB cs ws).map Value.string) ∧ Below W.heap.size W w') := fun W hW =>
      landr_any _ #[] allB A n c cs A' n' c' ws W ((ra.below hW).more hW.size) ((ra'.below hW).more hW.size) z2 z4 (keeps_every _ _ _) cf_every
    generalize landL allB cs ws = L1 at *
    generalize landL (keepB ks) cs ws = L2 at *
    clear r r' rk ra ra' rak hE hwa hza hba hrk hrb hle hck hc0 hc1 hx1 hx2 z3
    go_enter Try.func6, Try.ntmps6
    go_wp2_with (first
      | (go_at_call 30; rw [← HWA.out]; refine (H1.out _ (Below.refl _ _)).mono ?_; rintro e w1 ⟨D, q, d, rfl, r1, hb1⟩; obtain ⟨u0, u1, u2, u3, u4⟩ := HD.out w1 hb1; have HB1 := Lib.hid hb1; have R1 := Lib.hid r1; have HB1a := Lib.hid (hb1.alloc hb1.size (.cells #[.slice D q d, .slice none 0 0] 43)); clear hb1 r1)
      | (go_at_call 31; refine (H2.out _ HB1a.out).mono ?_; rintro e w2 ⟨D2, q2, d2, rfl, r2, hb2⟩; obtain ⟨k0, k1, kz⟩ := kept2 hb2; have hb2' := HB1a.out.trans (hb2.mono HB1a.out.size); obtain ⟨x0, x1, x2, x3, x4⟩ := HD.out w2 hb2'; have HB2 := Lib.hid hb2; have R2 := Lib.hid r2; have R1b := Lib.hid (carry_rows R1.out hb2 (.cells #[.slice D2 q2 d2, .slice none 0 0] 43)); have HB2a := Lib.hid (hb2'.alloc hb2'.size (.cells #[.slice D2 q2 d2, .slice none 0 0] 43)); clear hb2 r2 hb2')
      | (go_at_call 27; refine (H3.out _ HB2a.out).mono ?_; rintro e w3 ⟨rfl, hb3⟩; have y0 := on_alloc k0 kz hb3; have y1 := on_alloc k1 kz hb3; obtain ⟨z0, z1, zz⟩ := kept2 hb3; have hz13 : w1.heap.size < w3.heap.size := Nat.lt_trans kz zz; have R1c := Lib.hid ((R1b.out.below hb3).more hb3.size); have R2c := Lib.hid (carry_rows2 R2.out hb3); have HB3 := Lib.hid (HB2a.out.trans (hb3.mono HB2a.out.size)); obtain ⟨x0', x1', x2', x3', x4'⟩ := HD.out w3 HB3.out; clear hb3)
      | (go_at_call 32; refine (H4.out _ HB3.out).mono ?_; rintro e w4 ⟨D4, d4, rfl, r4, hb4⟩; have f0 := on_below y0 hz13 hb4; have f1 := on_below y1 hz13 hb4; have f2 := on_below z0 zz hb4; have f3 := on_below z1 zz hb4; have R4 := Lib.hid r4; have HB4 := Lib.hid hb4; clear hb4 r4))
    have hz34 := HB4.out.size
    have HB4' := Lib.hid (HB3.out.trans (HB4.out.mono HB3.out.size))
    obtain ⟨g0, g1, g2, g3, g4⟩ := HD.out w4 HB4'.out
    have HS : Hid ((w4.alloc (.cells #[.slice D4 cs.length d4, .slice none 0 0] 43)).cell? ⟨w.heap.size, 0, none⟩ = some (.slice A n c) ∧ (w4.alloc (.cells #[.slice D4 cs.length d4, .slice none 0 0] 43)).cell? ⟨w.heap.size, 1, none⟩ = some (.slice A' n' c') ∧ (w4.alloc (.cells #[.slice D4 cs.length d4, .slice none 0 0] 43)).cell? ⟨w1.heap.size, 0, none⟩ = some (.slice D q d) ∧ (w4.alloc (.cells #[.slice D4 cs.length d4, .slice none 0 0] 43)).cell? ⟨w1.heap.size, 1, none⟩ = some (.slice none 0 0) ∧ (w4.alloc (.cells #[.slice D4 cs.length d4, .slice none 0 0] 43)).cell? ⟨w2.heap.size, 0, none⟩ = some (.slice D2 q2 d2) ∧ (w4.alloc (.cells #[.slice D4 cs.length d4, .slice none 0 0] 43)).cell? ⟨w2.heap.size, 1, none⟩ = some (.slice none 0 0) ∧ (w4.alloc (.cells #[.slice D4 cs.length d4, .slice none 0 0] 43)).cell? ⟨w4.heap.size, 0, none⟩ = some (.slice D4 cs.length d4) ∧ (w4.alloc (.cells #[.slice D4 cs.length d4, .slice none 0 0] 43)).cell? ⟨w4.heap.size, 1, none⟩ = some (.slice none 0 0) ∧ Below (w4.alloc (.cells #[.slice D4 cs.length d4, .slice none 0 0] 43)).heap.size (w4.alloc (.cells #[.slice D4 cs.length d4, .slice none 0 0] 43)) (w4.alloc (.cells #[.slice D4 cs.length d4, .slice none 0 0] 43)) ∧ (w4.alloc (.cells #[.slice D4 cs.length d4, .slice none 0 0] 43)).heap.size ≤ (w4.alloc (.cells #[.slice D4 cs.length d4, .slice none 0 0] 43)).heap.size) := by
      obtain ⟨p0, p1⟩ := dbox2 w4 (.slice D4 cs.length d4) (.slice none 0 0) 43
      refine ⟨(World.cell?_alloc_lt _ _ _ g3).trans g0, (World.cell?_alloc_lt _ _ _ g3).trans g1, (World.cell?_alloc_lt _ _ _ (show w1.heap.size < w4.heap.size by omega)).trans f0, (World.cell?_alloc_lt _ _ _ (show w1.heap.size < w4.heap.size by omega)).trans f1, (World.cell?_alloc_lt _ _ _ (show w2.heap.size < w4.heap.size by omega)).trans f2, (World.cell?_alloc_lt _ _ _ (show w2.heap.size < w4.heap.size by omega)).trans f3, p0, p1, Below.refl _ _, Nat.le_refl _⟩
    have HBK : Hid (w.heap.size < (w4.alloc (.cells #[.slice D4 cs.length d4, .slice none 0 0] 43)).heap.size ∧ w1.heap.size < (w4.alloc (.cells #[.slice D4 cs.length d4, .slice none 0 0] 43)).heap.size ∧ w2.heap.size < (w4.alloc (.cells #[.slice D4 cs.length d4, .slice none 0 0] 43)).heap.size ∧ w4.heap.size < (w4.alloc (.cells #[.slice D4 cs.length d4, .slice none 0 0] 43)).heap.size) := by simp [Hid]; omega
    have HB5 := Lib.hid (HB4'.out.alloc HB4'.out.size (.cells #[.slice D4 cs.length d4, .slice none 0 0] 43))
    have R1d : Hid (RowsIn (w4.alloc (.cells #[.slice D4 cs.length d4, .slice none 0 0] 43)) (w4.alloc (.cells #[.slice D4 cs.length d4, .slice none 0 0] 43)).heap.size D q d (fun z => [.string z]) 1 L1) := carry_new ((R1c.out.below HB4.out).more HB4.out.size) _
    have R2d : Hid (RowsIn (w4.alloc (.cells #[.slice D4 cs.length d4, .slice none 0 0] 43)) (w4.alloc (.cells #[.slice D4 cs.length d4, .slice none 0 0] 43)).heap.size D2 q2 d2 (fun z => [.string z]) 1 L2) := carry_new ((R2c.out.below HB4.out).more HB4.out.size) _
    have R4d : Hid (RowsIn (w4.alloc (.cells #[.slice D4 cs.length d4, .slice none 0 0] 43)) (w4.alloc (.cells #[.slice D4 cs.length d4, .slice none 0 0] 43)).heap.size D4 cs.length d4 (fun z => [.string z]) 1 L2) := carry_new (own_strs R4.out) _
    clear y0 y1 z0 z1 f0 f1 f2 f3 g0 g1 g2 g3 g4 k0 k1 u0 u1 u2 x0 x1 x2 x0' x1' x2' HB4' R1c R2c R4 HB4 R1 R2 R1b
    generalize w4.alloc (.cells #[.slice D4 cs.length d4, .slice none 0 0] 43) = w5 at *
    obtain ⟨b0, b1, b2, b4⟩ := HBK.out
    have hs := HS.out
    go_region_held3 (fun W => W.cell? ⟨w.heap.size, 0, none⟩ = some (.slice A n c) ∧ W.cell? ⟨w.heap.size, 1, none⟩ = some (.slice A' n' c') ∧ W.cell? ⟨w1.heap.size, 0, none⟩ = some (.slice D q d) ∧ W.cell? ⟨w1.heap.size, 1, none⟩ = some (.slice none 0 0) ∧ W.cell? ⟨w2.heap.size, 0, none⟩ = some (.slice D2 q2 d2) ∧ W.cell? ⟨w2.heap.size, 1, none⟩ = some (.slice none 0 0) ∧ W.cell? ⟨w4.heap.size, 0, none⟩ = some (.slice D4 cs.length d4) ∧ W.cell? ⟨w4.heap.size, 1, none⟩ = some (.slice none 0 0) ∧ Below w5.heap.size w5 W ∧ w5.heap.size ≤ W.heap.size)
      (first | assumption | exact keep8d (by assumption) | exact keep8b ⟨b0, b0, b1, b1, b2, b2, b4, b4⟩ (by assumption) (by assumption))
      (first
        | (go_at_call 32; refine (H5.out _ ?_).mono ?_; (exact HB5.out.trans ((keep8w (by assumption)).mono HB5.out.size)); rintro e w6 ⟨D6, d6, rfl, r6, hb6⟩; have R6 := Lib.hid r6)
        | (go_at_call 26; go_at_call_of 26 D6; refine (H6.out _ _ _ _ _ _ _ _ _ _ _ _ _ _ _ (rows_up R1d.out (keep8w (by assumption))) (no_puts _ _) (own_strs R6.out) (no_puts _ _)).mono ?_; rintro e w7 ⟨rfl, hb7⟩)
        | (go_at_call 26; refine (H6.out _ _ _ _ _ _ _ _ _ _ _ _ _ _ _ (rows_up R2d.out (keep8w (by assumption))) (no_puts _ _) (rows_up R4d.out (keep8w (by assumption))) (no_puts _ _)).mono ?_; rintro e w8 ⟨rfl, hb8⟩))
    all_goals
      rename_i hHeld
      have hfin := keep8w hHeld
      clear hHeld hs
      go_wp2
      go_ret
      exact ⟨rfl, HBA.out.trans ((HB5.out.trans (hfin.mono HB5.out.size)).mono HBA.out.size)⟩
  · have hx1 : syncX allB cs ws = [] := by unfold syncX; rw [if_neg hE]
    have hx2 : syncX (keepB ks) cs ws = [] := by unfold syncX; rw [if_neg hE]
    rw [hx1] at H1
    rw [hx2] at H2
    have hne : (dskE cs ws != 0) = true := bne_iff_ne.2 hE
    generalize dskE cs ws = E at *
    clear r r' rk ra ra' rak hE hwa hza hba hrk hrb hle hck hc0 hc1 hx1 hx2
    go_enter Try.func6, Try.ntmps6
    go_wp2_with (first
      | (go_at_call 30; rw [← HWA.out]; refine (H1.out _ (Below.refl _ _)).mono ?_; rintro e w1 ⟨D, q, d, rfl, r1, hb1⟩; obtain ⟨u0, u1, u2, u3, u4⟩ := HD.out w1 hb1; have HB1 := Lib.hid hb1; have R1 := Lib.hid r1; have HB1a := Lib.hid (hb1.alloc hb1.size (.cells #[.slice D q d, .slice none 0 0] 43)); clear hb1 r1)
      | (go_at_call 31; refine (H2.out _ HB1a.out).mono ?_; rintro e w2 ⟨D2, q2, d2, rfl, r2, hb2⟩; obtain ⟨k0, k1, kz⟩ := kept2 hb2; have hb2' := HB1a.out.trans (hb2.mono HB1a.out.size); obtain ⟨x0, x1, x2, x3, x4⟩ := HD.out w2 hb2'; have HB2 := Lib.hid hb2; have R2 := Lib.hid r2; have R1b := Lib.hid (carry_rows R1.out hb2 (.cells #[.slice D2 q2 d2, .slice none 0 0] 43)); have HB2a := Lib.hid (hb2'.alloc hb2'.size (.cells #[.slice D2 q2 d2, .slice none 0 0] 43)); clear hb2 r2 hb2')
      | (go_at_call 27; refine (H3.out _ HB2a.out).mono ?_; rintro e w3 ⟨rfl, hb3⟩; have y0 := on_alloc k0 kz hb3; have y1 := on_alloc k1 kz hb3; obtain ⟨z0, z1, zz⟩ := kept2 hb3; have hz13 : w1.heap.size < w3.heap.size := Nat.lt_trans kz zz; have R1c := Lib.hid ((R1b.out.below hb3).more hb3.size); have R2c := Lib.hid (carry_rows2 R2.out hb3); have HB3 := Lib.hid (HB2a.out.trans (hb3.mono HB2a.out.size)); clear hb3)
      | (go_at_call 26; go_at_call_of 26 D; refine (H6.out _ _ _ _ _ _ _ _ _ _ _ _ _ _ _ R1c.out (no_puts _ _) (no_strs _ _) (no_puts _ _)).mono ?_; rintro e w4 ⟨rfl, hb4⟩; have q0 := on_below z0 zz hb4; have q1 := on_below z1 zz hb4; have HB4 := Lib.hid hb4; clear hb4)
      | (go_at_call 26; refine (H6.out _ _ _ _ _ _ _ _ _ _ _ _ _ _ _ ((R2c.out.below HB4.out).more HB4.out.size) (no_puts _ _) (no_strs _ _) (no_puts _ _)).mono ?_; rintro e w5 ⟨rfl, hb5⟩; have HB5 := Lib.hid hb5; clear hb5))
    go_ret
    have hb := HB3.out.trans (HB4.out.mono HB3.out.size)
    have hb := hb.trans (HB5.out.mono (Nat.le_trans HB3.out.size HB4.out.size))
    exact ⟨rfl, HBA.out.trans (hb.mono HBA.out.size)⟩
end Go.Proofs.Ytfindhcjamdmgaa.lDiskLands
