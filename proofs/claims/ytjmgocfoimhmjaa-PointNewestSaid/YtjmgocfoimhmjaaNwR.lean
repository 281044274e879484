/- linenref.Newest, walked. -/
import Derived.Test.YtjmgocfoimhmjaaNwP
import Derived.Test.YtjmgocfoimhmjaaCellR
import Derived.Test.YtjmgocfoimhmjaaDiskW
import Derived.Deep.DeepCutAuto
import Derived.Deep.RegionLaw
namespace Go.Proofs.Ytjmgocfoimhmjaa
open Go.RowKit

theorem cf_everyN : ∀ (args : Array Value) (W : World), (callFunc 28 args).run Try.prog W = .ok (.enter 28 args) W := fun args W => by kernel_rfl
set_option maxHeartbeats 400000 in
theorem keeps_everyN (B : Nat) (w : World) (N : Nat) : Keeps 28 #[] B w N allB := fun i W _ _ => by
  show Calls Try.prog 28 #[.int .i64 (i : Int)] W _
  go_enter Try.func28, Try.ntmps28
  go_wp2
  go_ret
  exact ⟨rfl, Below.refl _ _⟩
/-- What the second cell leaves: the chosen text's turn, error and point. -/
def NrI (t : TypeId) (_B M : Nat) (wa : World) (T : ByteArray) (s6 s8 : Value) (wx : World) : Prop := ∃ x D q d D' q' d', s6 = .int .i64 (prN T) ∧ s8 = .int .i64 (prE T) ∧ x = prS T ∧ wx.heap[M]? = some (.cells #[.int .i64 x, .slice D q d, .slice D' q' d'] t (0, 0)) ∧ PtR D q d D' q' d' (prP T) (prG T) wx ∧ Below wa.heap.size wa wx

set_option maxRecDepth 20000 in
set_option maxHeartbeats 4000000 in
theorem newr_any (A : Option Addr) (n c : Nat) (cs : List ByteArray) (A' : Option Addr) (n' c' : Nat) (ws : List PutD) (w : World) (r : RowsIn w w.heap.size A n c (fun z => [.string z]) 1 cs) (r' : RowsIn w w.heap.size A' n' c' PutD.cells 2 ws) (hsz : ∀ k : Nat, k < cs.length → dskE cs ws = 0 → (nowS cs ws k).size ≤ 140737488351232) :
    Calls Try.prog 39 #[.agg #[.slice A n c, .slice A' n' c']] w (NwPost cs ws w) := by
  have hlen := r.len
  subst hlen
  have hlen' := r'.len
  subst hlen'
  obtain ⟨wa, hwa⟩ : ∃ wa, wa = (w.alloc (.cells #[.slice A cs.length c, .slice A' ws.length c'] 41)).alloc (.cells zeroPt 64) := ⟨_, rfl⟩
  have hza : wa.heap.size = w.heap.size + 2 := by rw [hwa]; simp
  have hba : Below w.heap.size w wa := by rw [hwa]; exact ((Below.refl _ _).alloc (Nat.le_refl _) _).alloc (by simp) _
  have hra : wa.heap[w.heap.size + 1]? = some (.cells zeroPt 64 (0, 0)) := by
    rw [hwa]
    have := heap_alloc_new (w.alloc (.cells #[.slice A cs.length c, .slice A' ws.length c'] 41)) (.cells zeroPt 64)
    rw [show (w.alloc (.cells #[.slice A cs.length c, .slice A' ws.length c'] 41)).heap.size = w.heap.size + 1 by simp] at this
    exact this
  have hrb : wa.heap[w.heap.size]? = some (.cells #[.slice A cs.length c, .slice A' ws.length c'] 41 (0, 0)) := by
    rw [hwa]; exact (heap_alloc_old _ _ (by simp)).trans (heap_alloc_new w _)
  have hle : w.heap.size ≤ wa.heap.size := by omega
  have RA := Lib.hid ((r.below hba).more hle)
  have RA' := Lib.hid ((r'.below hba).more hle)
  have hone0 : Hid ((zeroPt : Array Value).all (·.oneCell') = true) := by simp [Hid, Value.oneCell']
  have HC : Hid (∀ W, Below wa.heap.size wa W → W.cell? ⟨w.heap.size, 0, none⟩ = some (.slice A cs.length c) ∧ W.cell? ⟨w.heap.size, 1, none⟩ = some (.slice A' ws.length c') ∧ w.heap.size < W.heap.size ∧ Hid (W.heap[w.heap.size + 1]? = some (.cells zeroPt 64 (0, 0)))) := fun W h => by
    have q0 := row_below hrb (row_lt hrb) h
    exact ⟨row_cell q0 0, row_cell q0 1, row_lt q0, row_below hra (row_lt hra) h⟩
  have HCK := Lib.hid (dskr_any A _ c cs A' _ c' ws wa RA.out RA'.out)
  have HWA := Lib.hid hwa
  have HBA := Lib.hid hba
  have HZA := Lib.hid hza
  clear r r' hwa hba hra hrb hza hle
  by_cases hd : dskE cs ws = 0
  · obtain ⟨z1, z2, _, _, z3⟩ := dsk_zero hd
    have HCE : Hid (∀ (k : Nat) W, k < cs.length → Below wa.heap.size wa W → Calls Try.prog 27 #[.agg #[.slice A cs.length c, .slice A' ws.length c'], .int .i64 k, .func (.func 28) #[] #[]] W fun e w' => e = .returned (.string (nowS cs ws k)) ∧ Below W.heap.size W w') := fun k W hk h => cell_any 28 #[] allB A _ c cs A' _ c' ws k W ((RA.out.below h).more h.size) ((RA'.out.below h).more h.size) hk z3 (keeps_everyN _ _ _) cf_everyN
    have HC0 : Hid (∀ W, Below wa.heap.size wa W → Calls Try.prog 27 #[.agg #[.slice A cs.length c, .slice A' ws.length c'], .int .i64 0, .func (.func 28) #[] #[]] W fun e w' => e = .returned (.string (nowS cs ws 0)) ∧ Below W.heap.size W w') := fun W h => HCE.out 0 W z1 h
    have HC1 : Hid (1 < cs.length → ∀ W, Below wa.heap.size wa W → Calls Try.prog 27 #[.agg #[.slice A cs.length c, .slice A' ws.length c'], .int .i64 1, .func (.func 28) #[] #[]] W fun e w' => e = .returned (.string (nowS cs ws 1)) ∧ Below W.heap.size W w') := fun hk W h => HCE.out 1 W hk h
    have HR0 : Hid (∀ W, Calls Try.prog 37 #[.string (nowS cs ws 0)] W (PrdPost (nowS cs ws 0) W)) := fun W => prq_any _ (hsz 0 z1 hd) W
    have HR1 : Hid (1 < cs.length → ∀ W, Calls Try.prog 37 #[.string (nowS cs ws 1)] W (PrdPost (nowS cs ws 1) W)) := fun hk W => prq_any _ (hsz 1 hk hd) W
    unfold PrdPost at HR0 HR1
    have HOK := Lib.hid (fun h => nw_ok (cs := cs) (ws := ws) hd h)
    have HCO := Lib.hid (fun h => nw_corrupt (cs := cs) (ws := ws) hd h)
    have HT : Hid ((1 < cs.length → nwT cs ws = nstep (nowS cs ws 0) (nowS cs ws 1)) ∧ (¬ 1 < cs.length → nwT cs ws = nowS cs ws 0)) := ⟨fun h => by unfold nwT; rw [if_pos h], fun h => by unfold nwT; rw [if_neg h]⟩
    rw [hd] at HCK
    clear hd z2 z3 HCE hsz
    generalize nowS cs ws 0 = t0 at *
    generalize nowS cs ws 1 = t1 at *
    generalize hT : nwT cs ws = T at *
    clear hT
    go_enter Try.func39, Try.ntmps39
    go_upto_if 28 with (first
      | (go_at_call 26; rw [← HWA.out]; refine HCK.out.mono ?_; rintro e w1 ⟨rfl, hb1⟩; obtain ⟨v0, v1, _, _⟩ := HC.out w1 hb1; have HB1 := Lib.hid hb1; clear hb1)
      | (go_at_call 27; refine (HC0.out _ HB1.out).mono ?_; rintro e w2 ⟨rfl, hb2⟩; have HB2 := Lib.hid (HB1.out.trans (hb2.mono HB1.out.size)); clear hb2)
      | (go_at_call 37; refine (HR0.out _).mono ?_; rintro e w3 ⟨D, q, d, D', q', d', rfl, r3, r3', hb3⟩; have HB3 := Lib.hid (HB2.out.trans (hb3.mono HB2.out.size)); have P3 : Hid (PtR D q d D' q' d' (prP t0) (prG t0) w3) := ⟨r3, r3', prG_one _⟩; obtain ⟨u0, u1, u2, _⟩ := HC.out w3 HB3.out; clear hb3 r3 r3'))
    have P4 := Lib.hid (P3.out.new (.cells #[.int .i64 (prS t0), .slice D q d, .slice D' q' d'] 64))
    have HB4 := Lib.hid (HB3.out.alloc HB3.out.size (.cells #[.int .i64 (prS t0), .slice D q d, .slice D' q' d'] 64))
    have HM4 := Lib.hid (heap_alloc_new w3 (.cells #[.int .i64 (prS t0), .slice D q d, .slice D' q' d'] 64))
    have HLO : Hid (wa.heap.size ≤ w3.heap.size) := HB3.out.size
    clear v0 v1 u0 u1 u2 P3 HB3 HB2 HB1
    generalize w3.alloc (.cells #[.int .i64 (prS t0), .slice D q d, .slice D' q' d'] 64) = w4 at *
    go_cut [6, 8] (fun s6 s8 wx => NrI 64 (w.heap.size + 1) w3.heap.size wa T s6 s8 wx)
    case first =>
      by_cases h1 : 1 < cs.length
      · have HTT := Lib.hid (HT.out.1 h1)
        have HC1' := Lib.hid (HC1.out h1)
        have HR1' := Lib.hid (HR1.out h1)
        have i1 : (1 : Int) < (cs.length : Int) := by omega
        obtain ⟨u0, u1, u2, _⟩ := HC.out w4 HB4.out
        clear HC1 HR1 HT h1 HC0 HR0
        by_cases hp1 : prE t1 = 0
        · by_cases hp0 : prE t0 = 0
          · by_cases hn : prN t0 < prN t1
            · have HS := Lib.hid (HTT.out.trans (nstep_yes hp1 (.inr hn)))
              rw [hp0]
              rw [hp1] at HR1'
              go_upto_if 46 with (first
                | (go_at_call 27; refine (HC1'.out _ HB4.out).mono ?_; rintro e w5 ⟨rfl, hb5⟩; have hb5' := hb5; have HM5 := Lib.hid (row_below HM4.out (row_lt HM4.out) hb5); have P5 := Lib.hid (P4.out.go hb5); have HB5 := Lib.hid (HB4.out.trans (hb5.mono HB4.out.size)); clear hb5 hb5')
                | (go_at_call 37; refine (HR1'.out _).mono ?_; rintro e w6 ⟨G, g, h, G', g', h', rfl, r6, r6', hb6⟩; have HM6 := Lib.hid (row_below HM5.out (row_lt HM5.out) hb6); have P6 := Lib.hid (P5.out.go hb6); have HB6 := Lib.hid (HB5.out.trans (hb6.mono HB5.out.size)); have Q6 : Hid (PtR G g h G' g' h' (prP t1) (prG t1) w6) := ⟨r6, r6', prG_one _⟩; clear hb6 r6 r6'))
              have HM7 := Lib.hid (row_alloc HM6.out (.cells #[.int .i64 (prS t1), .slice G g h, .slice G' g' h'] 64))
              have HN7 := Lib.hid (heap_alloc_new w6 (.cells #[.int .i64 (prS t1), .slice G g h, .slice G' g' h'] 64))
              have P7 := Lib.hid (P6.out.new (.cells #[.int .i64 (prS t1), .slice G g h, .slice G' g' h'] 64))
              have Q7 := Lib.hid (Q6.out.new (.cells #[.int .i64 (prS t1), .slice G g h, .slice G' g' h'] 64))
              have HB7 := Lib.hid (HB6.out.alloc HB6.out.size (.cells #[.int .i64 (prS t1), .slice G g h, .slice G' g' h'] 64))
              generalize w6.alloc (.cells #[.int .i64 (prS t1), .slice G g h, .slice G' g' h'] 64) = w7 at *
              have k0 : w7.cell? ⟨w3.heap.size, 0, none⟩ = some (.int .i64 (prS t0)) := row_cell HM7.out 0
              have k1 : w7.cell? ⟨w3.heap.size, 1, none⟩ = some (.slice D q d) := row_cell HM7.out 1
              have k2 : w7.cell? ⟨w3.heap.size, 2, none⟩ = some (.slice D' q' d') := row_cell HM7.out 2
              have k3 := row_cold HM7.out 0
              have k4 := row_cold HM7.out 1
              have k5 := row_cold HM7.out 2
              have l0 : w7.cell? ⟨w6.heap.size, 0, none⟩ = some (.int .i64 (prS t1)) := row_cell HN7.out 0
              have l1 : w7.cell? ⟨w6.heap.size, 1, none⟩ = some (.slice G g h) := row_cell HN7.out 1
              have l2 : w7.cell? ⟨w6.heap.size, 2, none⟩ = some (.slice G' g' h') := row_cell HN7.out 2
              go_wp2_with fail
              go_region_law (fail)
              all_goals
                have E : Hid (NrI 64 (w.heap.size + 1) w3.heap.size wa T (.int .i64 (prN t1)) (.int .i64 (prE t1)) (((w7.setCell ⟨w3.heap.size, 0, none⟩ (.int .i64 (prS t1))).setCell ⟨w3.heap.size, 1, none⟩ (.slice G g h)).setCell ⟨w3.heap.size, 2, none⟩ (.slice G' g' h')).drew) := by
                  rw [HS.out]; exact ⟨_, G, g, h, G', g', h', rfl, rfl, rfl, ptrow_set rfl HM7.out, Q7.out.set3 HM7.out _ _ _, below_set3 HB7.out HLO.out⟩
                rw [hp1] at E
                go_wp2_with fail
                go_meet
                case rel => exact E.out
            · have HS := Lib.hid (HTT.out.trans (nstep_old hp0 hn))
              rw [hp1] at HR1'
              go_upto_if 46 with (first
                | (go_at_call 27; refine (HC1'.out _ HB4.out).mono ?_; rintro e w5 ⟨rfl, hb5⟩; have hb5' := hb5; have HM5 := Lib.hid (row_below HM4.out (row_lt HM4.out) hb5); have P5 := Lib.hid (P4.out.go hb5); have HB5 := Lib.hid (HB4.out.trans (hb5.mono HB4.out.size)); clear hb5 hb5')
                | (go_at_call 37; refine (HR1'.out _).mono ?_; rintro e w6 ⟨G, g, h, G', g', h', rfl, r6, r6', hb6⟩; have HM6 := Lib.hid (row_below HM5.out (row_lt HM5.out) hb6); have P6 := Lib.hid (P5.out.go hb6); have HB6 := Lib.hid (HB5.out.trans (hb6.mono HB5.out.size)); have Q6 : Hid (PtR G g h G' g' h' (prP t1) (prG t1) w6) := ⟨r6, r6', prG_one _⟩; clear hb6 r6 r6'))
              have HM7 := Lib.hid (row_alloc HM6.out (.cells #[.int .i64 (prS t1), .slice G g h, .slice G' g' h'] 64))
              have HN7 := Lib.hid (heap_alloc_new w6 (.cells #[.int .i64 (prS t1), .slice G g h, .slice G' g' h'] 64))
              have P7 := Lib.hid (P6.out.new (.cells #[.int .i64 (prS t1), .slice G g h, .slice G' g' h'] 64))
              have Q7 := Lib.hid (Q6.out.new (.cells #[.int .i64 (prS t1), .slice G g h, .slice G' g' h'] 64))
              have HB7 := Lib.hid (HB6.out.alloc HB6.out.size (.cells #[.int .i64 (prS t1), .slice G g h, .slice G' g' h'] 64))
              have E : Hid (NrI 64 (w.heap.size + 1) w3.heap.size wa T (.int .i64 (prN t0)) (.int .i64 (prE t0)) (w6.alloc (.cells #[.int .i64 (prS t1), .slice G g h, .slice G' g' h'] 64))) := by rw [HS.out]; exact ⟨_, D, q, d, D', q', d', rfl, rfl, rfl, HM7.out, P7.out, HB7.out⟩
              rw [hp0] at E
              go_wp2_with fail
              go_meet
              case rel => exact E.out
          · have HS := Lib.hid (HTT.out.trans (nstep_yes hp1 (.inl hp0)))
            have g0 : (prE t0 != 0) = true := bne_iff_ne.2 hp0
            rw [hp1] at HR1'
            go_upto_if 46 with (first
              | (go_at_call 27; refine (HC1'.out _ HB4.out).mono ?_; rintro e w5 ⟨rfl, hb5⟩; have hb5' := hb5; have HM5 := Lib.hid (row_below HM4.out (row_lt HM4.out) hb5); have P5 := Lib.hid (P4.out.go hb5); have HB5 := Lib.hid (HB4.out.trans (hb5.mono HB4.out.size)); clear hb5 hb5')
              | (go_at_call 37; refine (HR1'.out _).mono ?_; rintro e w6 ⟨G, g, h, G', g', h', rfl, r6, r6', hb6⟩; have HM6 := Lib.hid (row_below HM5.out (row_lt HM5.out) hb6); have P6 := Lib.hid (P5.out.go hb6); have HB6 := Lib.hid (HB5.out.trans (hb6.mono HB5.out.size)); have Q6 : Hid (PtR G g h G' g' h' (prP t1) (prG t1) w6) := ⟨r6, r6', prG_one _⟩; clear hb6 r6 r6'))
            have HM7 := Lib.hid (row_alloc HM6.out (.cells #[.int .i64 (prS t1), .slice G g h, .slice G' g' h'] 64))
            have HN7 := Lib.hid (heap_alloc_new w6 (.cells #[.int .i64 (prS t1), .slice G g h, .slice G' g' h'] 64))
            have P7 := Lib.hid (P6.out.new (.cells #[.int .i64 (prS t1), .slice G g h, .slice G' g' h'] 64))
            have Q7 := Lib.hid (Q6.out.new (.cells #[.int .i64 (prS t1), .slice G g h, .slice G' g' h'] 64))
            have HB7 := Lib.hid (HB6.out.alloc HB6.out.size (.cells #[.int .i64 (prS t1), .slice G g h, .slice G' g' h'] 64))
            generalize w6.alloc (.cells #[.int .i64 (prS t1), .slice G g h, .slice G' g' h'] 64) = w7 at *
            have k0 : w7.cell? ⟨w3.heap.size, 0, none⟩ = some (.int .i64 (prS t0)) := row_cell HM7.out 0
            have k1 : w7.cell? ⟨w3.heap.size, 1, none⟩ = some (.slice D q d) := row_cell HM7.out 1
            have k2 : w7.cell? ⟨w3.heap.size, 2, none⟩ = some (.slice D' q' d') := row_cell HM7.out 2
            have k3 := row_cold HM7.out 0
            have k4 := row_cold HM7.out 1
            have k5 := row_cold HM7.out 2
            have l0 : w7.cell? ⟨w6.heap.size, 0, none⟩ = some (.int .i64 (prS t1)) := row_cell HN7.out 0
            have l1 : w7.cell? ⟨w6.heap.size, 1, none⟩ = some (.slice G g h) := row_cell HN7.out 1
            have l2 : w7.cell? ⟨w6.heap.size, 2, none⟩ = some (.slice G' g' h') := row_cell HN7.out 2
            go_wp2_with fail
            go_region_law (fail)
            all_goals
              have E : Hid (NrI 64 (w.heap.size + 1) w3.heap.size wa T (.int .i64 (prN t1)) (.int .i64 (prE t1)) (((w7.setCell ⟨w3.heap.size, 0, none⟩ (.int .i64 (prS t1))).setCell ⟨w3.heap.size, 1, none⟩ (.slice G g h)).setCell ⟨w3.heap.size, 2, none⟩ (.slice G' g' h')).drew) := by
                rw [HS.out]; exact ⟨_, G, g, h, G', g', h', rfl, rfl, rfl, ptrow_set rfl HM7.out, Q7.out.set3 HM7.out _ _ _, below_set3 HB7.out HLO.out⟩
              rw [hp1] at E
              go_wp2_with fail
              go_meet
              case rel => exact E.out
        · have HS := Lib.hid (HTT.out.trans (nstep_bad hp1))
          have g1 : (prE t1 == 0) = false := beq_eq_false_iff_ne.2 hp1
          skip
          go_upto_if 46 with (first
            | (go_at_call 27; refine (HC1'.out _ HB4.out).mono ?_; rintro e w5 ⟨rfl, hb5⟩; have hb5' := hb5; have HM5 := Lib.hid (row_below HM4.out (row_lt HM4.out) hb5); have P5 := Lib.hid (P4.out.go hb5); have HB5 := Lib.hid (HB4.out.trans (hb5.mono HB4.out.size)); clear hb5 hb5')
            | (go_at_call 37; refine (HR1'.out _).mono ?_; rintro e w6 ⟨G, g, h, G', g', h', rfl, r6, r6', hb6⟩; have HM6 := Lib.hid (row_below HM5.out (row_lt HM5.out) hb6); have P6 := Lib.hid (P5.out.go hb6); have HB6 := Lib.hid (HB5.out.trans (hb6.mono HB5.out.size)); have Q6 : Hid (PtR G g h G' g' h' (prP t1) (prG t1) w6) := ⟨r6, r6', prG_one _⟩; clear hb6 r6 r6'))
          have HM7 := Lib.hid (row_alloc HM6.out (.cells #[.int .i64 (prS t1), .slice G g h, .slice G' g' h'] 64))
          have HN7 := Lib.hid (heap_alloc_new w6 (.cells #[.int .i64 (prS t1), .slice G g h, .slice G' g' h'] 64))
          have P7 := Lib.hid (P6.out.new (.cells #[.int .i64 (prS t1), .slice G g h, .slice G' g' h'] 64))
          have Q7 := Lib.hid (Q6.out.new (.cells #[.int .i64 (prS t1), .slice G g h, .slice G' g' h'] 64))
          have HB7 := Lib.hid (HB6.out.alloc HB6.out.size (.cells #[.int .i64 (prS t1), .slice G g h, .slice G' g' h'] 64))
          have E : Hid (NrI 64 (w.heap.size + 1) w3.heap.size wa T (.int .i64 (prN t0)) (.int .i64 (prE t0)) (w6.alloc (.cells #[.int .i64 (prS t1), .slice G g h, .slice G' g' h'] 64))) := by rw [HS.out]; exact ⟨_, D, q, d, D', q', d', rfl, rfl, rfl, HM7.out, P7.out, HB7.out⟩
          go_wp2_with fail
          go_meet
          case rel => exact E.out
      · have HS := Lib.hid (HT.out.2 h1)
        have i1 : ¬ (1 : Int) < (cs.length : Int) := by omega
        clear HC1 HR1 HT h1
        have E : Hid (NrI 64 (w.heap.size + 1) w3.heap.size wa T (.int .i64 (prN t0)) (.int .i64 (prE t0)) w4) := by rw [HS.out]; exact ⟨_, D, q, d, D', q', d', rfl, rfl, rfl, HM4.out, P4.out, HB4.out⟩
        go_wp2_with fail
        go_meet
        case rel => exact E.out
    case rest =>
      obtain ⟨x, G, g, h, G', g', h', rfl, rfl, rfl, hM, hP, hB⟩ := hcut
      obtain ⟨w8, rfl⟩ : ∃ z : World, z = wc := ⟨_, rfl⟩
      have HM8 := Lib.hid hM
      have HP8 := Lib.hid hP
      have HB8 := Lib.hid hB
      obtain ⟨_, _, _, v2⟩ := HC.out w8 hB
      clear hM hP hB
      by_cases hT : prE T = 0
      · obtain ⟨e1, e2⟩ := HOK.out hT
        have F := Lib.hid e1
        have F2 := Lib.hid e2
        have HTE := Lib.hid hT
        have k0 : w8.cell? ⟨w.heap.size + 1, 0, none⟩ = some (.int .i64 0) := row_cell v2.out 0
        have k1 : w8.cell? ⟨w.heap.size + 1, 1, none⟩ = some (.slice none 0 0) := row_cell v2.out 1
        have k2 : w8.cell? ⟨w.heap.size + 1, 2, none⟩ = some (.slice none 0 0) := row_cell v2.out 2
        have k3 := row_cold v2.out 0
        have k4 := row_cold v2.out 1
        have k5 := row_cold v2.out 2
        have l0 : w8.cell? ⟨w3.heap.size, 0, none⟩ = some (.int .i64 (prS T)) := row_cell HM8.out 0
        have l1 : w8.cell? ⟨w3.heap.size, 1, none⟩ = some (.slice G g h) := row_cell HM8.out 1
        have l2 : w8.cell? ⟨w3.heap.size, 2, none⟩ = some (.slice G' g' h') := row_cell HM8.out 2
        clear e1 e2 HOK HCO
        generalize hTE : prE T = TE at *
        subst hT
        go_wp2_with fail
        go_region_law (fail)
        all_goals
          have hm := ptrow_set (x' := prS T) (G := G) (g := g) (h := h) (G' := G') (g' := g') (h' := h') rfl v2.out
          have HM9 := Lib.hid hm
          have P9 := Lib.hid (HP8.out.set3 v2.out (.int .i64 (prS T)) (.slice G g h) (.slice G' g' h'))
          have HB9 := Lib.hid (below_set3 (u := .int .i64 (prS T)) (v := .slice G g h) (z := .slice G' g' h') (HBA.out.trans (HB8.out.mono HBA.out.size)) (show w.heap.size ≤ w.heap.size + 1 by omega))
          clear hm k0 k1 k2 k3 k4 k5
          generalize (((w8.setCell ⟨w.heap.size + 1, 0, none⟩ (.int .i64 (prS T))).setCell ⟨w.heap.size + 1, 1, none⟩ (.slice G g h)).setCell ⟨w.heap.size + 1, 2, none⟩ (.slice G' g' h')).drew = w9 at *
          go_wp2
          refine bodyPost_ret (results_tct_row rfl _ _ (w.heap.size + 1) _ #[.int .i64 (prS T), .slice G g h, .slice G' g' h'] (0, 0) _ rfl HM9.out Try.underlying64 rfl info_pt) rfl ?_
          exact ⟨G, g, h, G', g', h', by rw [F.out, F2.out] <;> rfl, by rw [F2.out]; exact P9.out.a1, by rw [F2.out]; exact P9.out.a2, HB9.out⟩
      · obtain ⟨e1, e2⟩ := HCO.out hT
        have F := Lib.hid e1
        have F2 := Lib.hid e2
        have i4 : (prE T != 0) = true := bne_iff_ne.2 hT
        clear e1 e2 HOK HCO hT
        go_wp2_with (refine wpList_store_rowTo rfl _ _ _ rfl rfl (w.heap.size + 1) zeroPt rfl rfl 64 zeroPt v2.out info_pt rfl hone0.out ?_)
        refine bodyPost_ret (results_tct_row rfl _ _ (w.heap.size + 1) _ zeroPt (0, 0) _ rfl (row_set v2.out) Try.underlying64 rfl info_pt) rfl ?_
        exact nwPost_bad F.out F2.out (below_setRow (HBA.out.trans (HB8.out.mono HBA.out.size)) (by omega) _)
  · obtain ⟨e1, e2⟩ := nw_bad hd
    have F := Lib.hid e1
    have F2 := Lib.hid e2
    have i4 : (dskE cs ws != 0) = true := bne_iff_ne.2 hd
    generalize dskE cs ws = de at *
    clear hd e1 e2
    go_enter Try.func39, Try.ntmps39
    go_wp2_with (first
      | (go_at_call 26; rw [← HWA.out]; refine HCK.out.mono ?_; rintro e w1 ⟨rfl, hb1⟩; obtain ⟨v0, v1, _, v2⟩ := HC.out w1 hb1; have HB1 := Lib.hid hb1; clear hb1)
      | (refine wpList_store_rowTo rfl _ _ _ rfl rfl (w.heap.size + 1) zeroPt rfl rfl 64 zeroPt v2.out info_pt rfl hone0.out ?_))
    refine bodyPost_ret (results_tct_row rfl _ _ (w.heap.size + 1) _ zeroPt (0, 0) _ rfl (row_set v2.out) Try.underlying64 rfl info_pt) rfl ?_
    exact nwPost_bad F.out F2.out (below_setRow (HBA.out.trans (HB1.out.mono HBA.out.size)) (by omega) _)
end Go.Proofs.Ytjmgocfoimhmjaa
