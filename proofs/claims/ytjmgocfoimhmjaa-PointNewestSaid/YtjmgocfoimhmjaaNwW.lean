/- point.Newest, walked. -/
import Derived.Test.YtjmgocfoimhmjaaNwP
import Derived.Test.YtjmgocfoimhmjaaDnowW
import Derived.Test.YtjmgocfoimhmjaaDiskW
import Derived.Deep.DeepCutAuto
import Derived.Deep.RegionLaw
namespace Go.Proofs.Ytjmgocfoimhmjaa
open Go.RowKit

noncomputable def prB (T : ByteArray) : Bool := decide (prE T = 0)
theorem prB_yes {T : ByteArray} (h : prE T = 0) : prB T = true := by unfold prB; exact decide_eq_true h
theorem prB_no {T : ByteArray} (h : prE T ≠ 0) : prB T = false := by unfold prB; exact decide_eq_false h
structure NpI (cs : List ByteArray) (ws : List PutD) (t : TypeId) (M : Nat) (wa : World) (T : ByteArray) (i : Nat) (wx : World) : Prop where
  text : T = pnT cs ws i
  pt : ∃ D q d D' q' d', wx.heap[M]? = some (.cells #[.int .i64 (prS T), .slice D q d, .slice D' q' d'] t (0, 0)) ∧ PtR D q d D' q' d' (prP T) (prG T) wx
  below : Below wa.heap.size wa wx
  lo : wa.heap.size ≤ M

set_option maxRecDepth 20000 in
set_option maxHeartbeats 4000000 in
theorem new_any (A : Option Addr) (n c : Nat) (cs : List ByteArray) (A' : Option Addr) (n' c' : Nat) (ws : List PutD) (w : World) (r : RowsIn w w.heap.size A n c (fun z => [.string z]) 1 cs) (r' : RowsIn w w.heap.size A' n' c' PutD.cells 2 ws) :
    Calls Try.prog 38 #[.agg #[.slice A n c, .slice A' n' c']] w (NwPost cs ws w) := by
  have hlen := r.len
  subst hlen
  have hlen' := r'.len
  subst hlen'
  obtain ⟨wa, hwa⟩ : ∃ wa, wa = (w.alloc (.cells #[.slice A cs.length c, .slice A' ws.length c'] 41)).alloc (.cells zeroPt 64) := ⟨_, rfl⟩
  have hza : wa.heap.size = w.heap.size + 2 := by rw [hwa]; simp
  have hba : Below w.heap.size w wa := by rw [hwa]; exact ((Below.refl _ _).alloc (Nat.le_refl _) _).alloc (by simp) _
  have hra : wa.heap[w.heap.size + 1]? = some (.cells zeroPt 64 (0, 0)) := by
    rw [hwa]
    have := heap_alloc_new (w.alloc (.cells #[.slice A cs.length c, .slice A' ws.length c'] 41)) (.cells zeroPt 64)
    rw [show (w.alloc (.cells #[.slice A cs.length c, .slice A' ws.length c'] 41)).heap.size = w.heap.size + 1 by simp] at this
    exact this
  have hrb : wa.heap[w.heap.size]? = some (.cells #[.slice A cs.length c, .slice A' ws.length c'] 41 (0, 0)) := by
    rw [hwa]; exact (heap_alloc_old _ _ (by simp)).trans (heap_alloc_new w _)
  have hle : w.heap.size ≤ wa.heap.size := by omega
  have RA := Lib.hid ((r.below hba).more hle)
  have RA' := Lib.hid ((r'.below hba).more hle)
  have hone0 : Hid ((zeroPt : Array Value).all (·.oneCell') = true) := by simp [Hid, Value.oneCell']
  have HC : Hid (∀ W, Below wa.heap.size wa W → W.cell? ⟨w.heap.size, 0, none⟩ = some (.slice A cs.length c) ∧ W.cell? ⟨w.heap.size, 1, none⟩ = some (.slice A' ws.length c') ∧ w.heap.size < W.heap.size ∧ Hid (W.heap[w.heap.size + 1]? = some (.cells zeroPt 64 (0, 0)))) := fun W h => by
    have q0 := row_below hrb (row_lt hrb) h
    exact ⟨row_cell q0 0, row_cell q0 1, row_lt q0, row_below hra (row_lt hra) h⟩
  have HCK := Lib.hid (dchk_any A _ c cs A' _ c' ws wa RA.out RA'.out)
  have HWA := Lib.hid hwa
  have HBA := Lib.hid hba
  have HZA := Lib.hid hza
  clear r r' hwa hba hra hrb hza hle
  by_cases hd : dskE cs ws = 0
  · obtain ⟨z1, z2, _, _, z3⟩ := dsk_zero hd
    have HCE : Hid (∀ (k : Nat) W, k < cs.length → Below wa.heap.size wa W → Calls Try.prog 65 #[.agg #[.slice A cs.length c, .slice A' ws.length c'], .int .i64 k] W fun e w' => e = .returned (.string (nowS cs ws k)) ∧ Below W.heap.size W w') := fun k W hk h => now_any A _ c cs A' _ c' ws k W ((RA.out.below h).more h.size) ((RA'.out.below h).more h.size) hk z3
    have HRE : Hid (∀ t W, Calls Try.prog 36 #[.string t] W (PrdPost t W)) := fun t W => prd_any t W
    unfold PrdPost at HRE
    have HOK := Lib.hid (fun h => nw_ok (cs := cs) (ws := ws) hd h)
    have HCO := Lib.hid (fun h => nw_corrupt (cs := cs) (ws := ws) hd h)
    have Z1 := Lib.hid z1
    rw [hd] at HCK
    clear hd z2 z3 z1
    by_cases hn : cs.length < 2
    · have HEND : Hid (SameP (pnT cs ws cs.length) (nwT cs ws)) := pn_end ⟨fun h => by omega, fun h => by have := Z1.out; omega⟩
      go_enter Try.func38, Try.ntmps38
      go_wp2_with (go_at_call 60; rw [← HWA.out]; refine HCK.out.mono ?_; rintro e w1 ⟨rfl, hb1⟩; obtain ⟨v0, v1, vl, _⟩ := HC.out w1 hb1; have HB1 := Lib.hid hb1; clear hb1)
      have E0 : Hid (NpI cs ws 64 w1.heap.size wa ⟨#[]⟩ 0 (w1.alloc (.cells zeroPt 64))) := by
        obtain ⟨_, b, c, d⟩ := pr_zero pr_empty
        refine { text := rfl, pt := ⟨none, 0, 0, none, 0, 0, ?_, ?_⟩, below := HB1.out.alloc HB1.out.size _, lo := HB1.out.size }
        · rw [b]; exact heap_alloc_new w1 _
        · rw [c, d]; exact PtR.nil _
      have HLO : Hid (wa.heap.size ≤ w1.heap.size) := HB1.out.size
      clear v0 v1 vl
      go_loopw [6, 7, 24] (fun v6 v7 v24 wr => ∃ (i : Nat) (T : ByteArray), i ≤ cs.length ∧ v24 = .int .i64 i ∧ v6 = .int .i64 (prN T) ∧ v7 = .bool (prB T) ∧ Hid (NpI cs ws 64 w1.heap.size wa T i wr)) (fun _ _ v24 _ => cs.length - (intOf v24).toNat)
      case atStart => exact ⟨0, ⟨#[]⟩, Nat.zero_le _, rfl, by rw [(pr_zero pr_empty).1], by rw [prB_no pr_empty], E0.out⟩
      case round =>
        obtain ⟨i, T, hi, rfl, rfl, rfl, hP⟩ := hrel
        obtain ⟨w4, rfl⟩ : ∃ z : World, z = wr := ⟨_, rfl⟩
        obtain ⟨D, q, d, D', q', d', hM, hPt⟩ := hP.out.pt
        have HM := Lib.hid hM
        have HP := Lib.hid hPt
        clear hM hPt E0
        by_cases hlt : i < cs.length
        · have hil : i < cs.length := by omega
          have i1 : (i : Int) < (cs.length : Int) := by omega
          have HNX : Hid (pnT cs ws (i + 1) = nstep T (nowS cs ws i)) := by rw [hP.out.text]; rfl
          have HRt := Lib.hid (HRE.out (nowS cs ws i))
          have HCt := Lib.hid (HCE.out i)
          obtain ⟨u0, u1, u2, _⟩ := HC.out w4 hP.out.below
          clear HCE
          generalize nowS cs ws i = t at *
          have HCE : Hid (∀ (k : Nat) W, k < cs.length → Below wa.heap.size wa W → k = i → Calls Try.prog 65 #[.agg #[.slice A cs.length c, .slice A' ws.length c'], .int .i64 k] W fun e w' => e = .returned (.string t) ∧ Below W.heap.size W w') := fun k W hk h e => by subst e; exact HCt.out W hk h
          clear HCt
          by_cases hp1 : prE t = 0
          · by_cases hp0 : prE T = 0
            · have HFB : Hid (prB T = true) := prB_yes hp0
              by_cases hnn : prN T < prN t
              · generalize hfb : prB T = fb at *
                obtain rfl : fb = true := hfb.symm.trans (prB_yes hp0)
                clear hfb
                have HS := Lib.hid (HNX.out.trans (nstep_yes hp1 (.inr hnn)))
                have HPB : Hid (prB t = true) := prB_yes hp1
                rw [hp1] at HRt
                clear hp1
                go_upto_if 45 with (first
                  | (go_at_call 65; refine (HCE.out i _ hil hP.out.below rfl).mono ?_; rintro e w5 ⟨rfl, hb5⟩; have HM5 := Lib.hid (row_below HM.out (row_lt HM.out) hb5); have P5 := Lib.hid (HP.out.go hb5); have HB5 := Lib.hid (hP.out.below.trans (hb5.mono hP.out.below.size)); clear hb5)
                  | (go_at_call 36; refine (HRt.out _).mono ?_; rintro e w6 ⟨G, g, h, G', g', h', rfl, r6, r6', hb6⟩; have HM6 := Lib.hid (row_below HM5.out (row_lt HM5.out) hb6); have P6 := Lib.hid (P5.out.go hb6); have HB6 := Lib.hid (HB5.out.trans (hb6.mono HB5.out.size)); have Q6 : Hid (PtR G g h G' g' h' (prP t) (prG t) w6) := ⟨r6, r6', prG_one _⟩; clear hb6 r6 r6'))
                have HM7 := Lib.hid (row_alloc HM6.out (.cells #[.int .i64 (prS t), .slice G g h, .slice G' g' h'] 64))
                have HN7 := Lib.hid (heap_alloc_new w6 (.cells #[.int .i64 (prS t), .slice G g h, .slice G' g' h'] 64))
                have P7 := Lib.hid (P6.out.new (.cells #[.int .i64 (prS t), .slice G g h, .slice G' g' h'] 64))
                have Q7 := Lib.hid (Q6.out.new (.cells #[.int .i64 (prS t), .slice G g h, .slice G' g' h'] 64))
                have HB7 := Lib.hid (HB6.out.alloc HB6.out.size (.cells #[.int .i64 (prS t), .slice G g h, .slice G' g' h'] 64))
                generalize w6.alloc (.cells #[.int .i64 (prS t), .slice G g h, .slice G' g' h'] 64) = w7 at *
                have k0 : w7.cell? ⟨w1.heap.size, 0, none⟩ = some (.int .i64 (prS T)) := row_cell HM7.out 0
                have k1 : w7.cell? ⟨w1.heap.size, 1, none⟩ = some (.slice D q d) := row_cell HM7.out 1
                have k2 : w7.cell? ⟨w1.heap.size, 2, none⟩ = some (.slice D' q' d') := row_cell HM7.out 2
                have k3 := row_cold HM7.out 0
                have k4 := row_cold HM7.out 1
                have k5 := row_cold HM7.out 2
                have l0 : w7.cell? ⟨w6.heap.size, 0, none⟩ = some (.int .i64 (prS t)) := row_cell HN7.out 0
                have l1 : w7.cell? ⟨w6.heap.size, 1, none⟩ = some (.slice G g h) := row_cell HN7.out 1
                have l2 : w7.cell? ⟨w6.heap.size, 2, none⟩ = some (.slice G' g' h') := row_cell HN7.out 2
                go_wp2_with fail
                go_region_law (fail)
                all_goals
                  have E : Hid (NpI cs ws 64 w1.heap.size wa t (i + 1) (((w7.setCell ⟨w1.heap.size, 0, none⟩ (.int .i64 (prS t))).setCell ⟨w1.heap.size, 1, none⟩ (.slice G g h)).setCell ⟨w1.heap.size, 2, none⟩ (.slice G' g' h')).drew) := { text := HS.out.symm, pt := ⟨G, g, h, G', g', h', ptrow_set rfl HM7.out, Q7.out.set3 HM7.out _ _ _⟩, below := below_set3 HB7.out HLO.out, lo := HLO.out }
                  clear k0 k1 k2 k3 k4 k5
                  go_wp2_with fail
                  go_roundw
                  case rel => exact ⟨i + 1, t, by omega, by go_num, rfl, by rw [HPB.out], E.out⟩
                  case measure => (simp [intOf]; try omega)
              · generalize hfb : prB T = fb at *
                obtain rfl : fb = true := hfb.symm.trans (prB_yes hp0)
                have HFC : Hid (prB T = true) := prB_yes hp0
                clear hfb
                have HS := Lib.hid (HNX.out.trans (nstep_old hp0 hnn))
                rw [hp1] at HRt
                clear hp1 hp0
                go_upto_if 45 with (first
                  | (go_at_call 65; refine (HCE.out i _ hil hP.out.below rfl).mono ?_; rintro e w5 ⟨rfl, hb5⟩; have HM5 := Lib.hid (row_below HM.out (row_lt HM.out) hb5); have P5 := Lib.hid (HP.out.go hb5); have HB5 := Lib.hid (hP.out.below.trans (hb5.mono hP.out.below.size)); clear hb5)
                  | (go_at_call 36; refine (HRt.out _).mono ?_; rintro e w6 ⟨G, g, h, G', g', h', rfl, r6, r6', hb6⟩; have HM6 := Lib.hid (row_below HM5.out (row_lt HM5.out) hb6); have P6 := Lib.hid (P5.out.go hb6); have HB6 := Lib.hid (HB5.out.trans (hb6.mono HB5.out.size)); have Q6 : Hid (PtR G g h G' g' h' (prP t) (prG t) w6) := ⟨r6, r6', prG_one _⟩; clear hb6 r6 r6'))
                have HM7 := Lib.hid (row_alloc HM6.out (.cells #[.int .i64 (prS t), .slice G g h, .slice G' g' h'] 64))
                have HN7 := Lib.hid (heap_alloc_new w6 (.cells #[.int .i64 (prS t), .slice G g h, .slice G' g' h'] 64))
                have P7 := Lib.hid (P6.out.new (.cells #[.int .i64 (prS t), .slice G g h, .slice G' g' h'] 64))
                have Q7 := Lib.hid (Q6.out.new (.cells #[.int .i64 (prS t), .slice G g h, .slice G' g' h'] 64))
                have HB7 := Lib.hid (HB6.out.alloc HB6.out.size (.cells #[.int .i64 (prS t), .slice G g h, .slice G' g' h'] 64))
                have E : Hid (NpI cs ws 64 w1.heap.size wa T (i + 1) (w6.alloc (.cells #[.int .i64 (prS t), .slice G g h, .slice G' g' h'] 64))) := { text := HS.out.symm, pt := ⟨D, q, d, D', q', d', HM7.out, P7.out⟩, below := HB7.out, lo := HLO.out }
                go_wp2_with fail
                go_roundw
                case rel => exact ⟨i + 1, T, by omega, by go_num, rfl, by rw [HFC.out], E.out⟩
                case measure => (simp [intOf]; try omega)
            · have HFB : Hid (prB T = false) := prB_no hp0
              generalize hfb : prB T = fb at *
              obtain rfl : fb = false := hfb.symm.trans (prB_no hp0)
              clear hfb
              have HS := Lib.hid (HNX.out.trans (nstep_yes hp1 (.inl hp0)))
              have HPB : Hid (prB t = true) := prB_yes hp1
              rw [hp1] at HRt
              clear hp1
              go_upto_if 45 with (first
                | (go_at_call 65; refine (HCE.out i _ hil hP.out.below rfl).mono ?_; rintro e w5 ⟨rfl, hb5⟩; have HM5 := Lib.hid (row_below HM.out (row_lt HM.out) hb5); have P5 := Lib.hid (HP.out.go hb5); have HB5 := Lib.hid (hP.out.below.trans (hb5.mono hP.out.below.size)); clear hb5)
                | (go_at_call 36; refine (HRt.out _).mono ?_; rintro e w6 ⟨G, g, h, G', g', h', rfl, r6, r6', hb6⟩; have HM6 := Lib.hid (row_below HM5.out (row_lt HM5.out) hb6); have P6 := Lib.hid (P5.out.go hb6); have HB6 := Lib.hid (HB5.out.trans (hb6.mono HB5.out.size)); have Q6 : Hid (PtR G g h G' g' h' (prP t) (prG t) w6) := ⟨r6, r6', prG_one _⟩; clear hb6 r6 r6'))
              have HM7 := Lib.hid (row_alloc HM6.out (.cells #[.int .i64 (prS t), .slice G g h, .slice G' g' h'] 64))
              have HN7 := Lib.hid (heap_alloc_new w6 (.cells #[.int .i64 (prS t), .slice G g h, .slice G' g' h'] 64))
              have P7 := Lib.hid (P6.out.new (.cells #[.int .i64 (prS t), .slice G g h, .slice G' g' h'] 64))
              have Q7 := Lib.hid (Q6.out.new (.cells #[.int .i64 (prS t), .slice G g h, .slice G' g' h'] 64))
              have HB7 := Lib.hid (HB6.out.alloc HB6.out.size (.cells #[.int .i64 (prS t), .slice G g h, .slice G' g' h'] 64))
              generalize w6.alloc (.cells #[.int .i64 (prS t), .slice G g h, .slice G' g' h'] 64) = w7 at *
              have k0 : w7.cell? ⟨w1.heap.size, 0, none⟩ = some (.int .i64 (prS T)) := row_cell HM7.out 0
              have k1 : w7.cell? ⟨w1.heap.size, 1, none⟩ = some (.slice D q d) := row_cell HM7.out 1
              have k2 : w7.cell? ⟨w1.heap.size, 2, none⟩ = some (.slice D' q' d') := row_cell HM7.out 2
              have k3 := row_cold HM7.out 0
              have k4 := row_cold HM7.out 1
              have k5 := row_cold HM7.out 2
              have l0 : w7.cell? ⟨w6.heap.size, 0, none⟩ = some (.int .i64 (prS t)) := row_cell HN7.out 0
              have l1 : w7.cell? ⟨w6.heap.size, 1, none⟩ = some (.slice G g h) := row_cell HN7.out 1
              have l2 : w7.cell? ⟨w6.heap.size, 2, none⟩ = some (.slice G' g' h') := row_cell HN7.out 2
              go_wp2_with fail
              go_region_law (fail)
              all_goals
                have E : Hid (NpI cs ws 64 w1.heap.size wa t (i + 1) (((w7.setCell ⟨w1.heap.size, 0, none⟩ (.int .i64 (prS t))).setCell ⟨w1.heap.size, 1, none⟩ (.slice G g h)).setCell ⟨w1.heap.size, 2, none⟩ (.slice G' g' h')).drew) := { text := HS.out.symm, pt := ⟨G, g, h, G', g', h', ptrow_set rfl HM7.out, Q7.out.set3 HM7.out _ _ _⟩, below := below_set3 HB7.out HLO.out, lo := HLO.out }
                clear k0 k1 k2 k3 k4 k5
                go_wp2_with fail
                go_roundw
                case rel => exact ⟨i + 1, t, by omega, by go_num, rfl, by rw [HPB.out], E.out⟩
                case measure => (simp [intOf]; try omega)
          · have g1 : (prE t == 0) = false := beq_eq_false_iff_ne.2 hp1
            have HFB : Hid (prB T = prB T) := rfl
            have HS := Lib.hid (HNX.out.trans (nstep_bad hp1))
            clear hp1
            go_upto_if 45 with (first
              | (go_at_call 65; refine (HCE.out i _ hil hP.out.below rfl).mono ?_; rintro e w5 ⟨rfl, hb5⟩; have HM5 := Lib.hid (row_below HM.out (row_lt HM.out) hb5); have P5 := Lib.hid (HP.out.go hb5); have HB5 := Lib.hid (hP.out.below.trans (hb5.mono hP.out.below.size)); clear hb5)
              | (go_at_call 36; refine (HRt.out _).mono ?_; rintro e w6 ⟨G, g, h, G', g', h', rfl, r6, r6', hb6⟩; have HM6 := Lib.hid (row_below HM5.out (row_lt HM5.out) hb6); have P6 := Lib.hid (P5.out.go hb6); have HB6 := Lib.hid (HB5.out.trans (hb6.mono HB5.out.size)); have Q6 : Hid (PtR G g h G' g' h' (prP t) (prG t) w6) := ⟨r6, r6', prG_one _⟩; clear hb6 r6 r6'))
            have HM7 := Lib.hid (row_alloc HM6.out (.cells #[.int .i64 (prS t), .slice G g h, .slice G' g' h'] 64))
            have HN7 := Lib.hid (heap_alloc_new w6 (.cells #[.int .i64 (prS t), .slice G g h, .slice G' g' h'] 64))
            have P7 := Lib.hid (P6.out.new (.cells #[.int .i64 (prS t), .slice G g h, .slice G' g' h'] 64))
            have Q7 := Lib.hid (Q6.out.new (.cells #[.int .i64 (prS t), .slice G g h, .slice G' g' h'] 64))
            have HB7 := Lib.hid (HB6.out.alloc HB6.out.size (.cells #[.int .i64 (prS t), .slice G g h, .slice G' g' h'] 64))
            have E : Hid (NpI cs ws 64 w1.heap.size wa T (i + 1) (w6.alloc (.cells #[.int .i64 (prS t), .slice G g h, .slice G' g' h'] 64))) := { text := HS.out.symm, pt := ⟨D, q, d, D', q', d', HM7.out, P7.out⟩, below := HB7.out, lo := HLO.out }
            go_wp2_with fail
            go_roundw
            case rel => exact ⟨i + 1, T, by omega, by go_num, rfl, rfl, E.out⟩
            case measure => (simp [intOf]; try omega)
        · obtain rfl : i = cs.length := by omega
          have i1 : ¬ ((cs.length : Int) : Int) < (cs.length : Int) := by omega
          have HSM := Lib.hid (show SameP T (nwT cs ws) by rw [hP.out.text]; exact HEND.out)
          obtain ⟨_, _, _, v2⟩ := HC.out w4 hP.out.below
          by_cases hT : prE T = 0
          · obtain ⟨e1, e2⟩ := HOK.out (HSM.out.2.2.2.2.1 hT)
            have F := Lib.hid e1
            have F2 := Lib.hid e2
            have k0 : w4.cell? ⟨w.heap.size + 1, 0, none⟩ = some (.int .i64 0) := row_cell v2.out 0
            have k1 : w4.cell? ⟨w.heap.size + 1, 1, none⟩ = some (.slice none 0 0) := row_cell v2.out 1
            have k2 : w4.cell? ⟨w.heap.size + 1, 2, none⟩ = some (.slice none 0 0) := row_cell v2.out 2
            have k3 := row_cold v2.out 0
            have k4 := row_cold v2.out 1
            have k5 := row_cold v2.out 2
            have l0 : w4.cell? ⟨w1.heap.size, 0, none⟩ = some (.int .i64 (prS T)) := row_cell HM.out 0
            have l1 : w4.cell? ⟨w1.heap.size, 1, none⟩ = some (.slice D q d) := row_cell HM.out 1
            have l2 : w4.cell? ⟨w1.heap.size, 2, none⟩ = some (.slice D' q' d') := row_cell HM.out 2
            generalize hfb : prB T = fb at *
            obtain rfl : fb = true := hfb.symm.trans (prB_yes hT)
            clear e1 e2 hfb hT
            go_wp2_with fail
            go_region_law (fail)
            all_goals
              have hm := ptrow_set (x' := prS T) (G := D) (g := q) (h := d) (G' := D') (g' := q') (h' := d') rfl v2.out
              have HM9 := Lib.hid hm
              have P9 := Lib.hid (HP.out.set3 v2.out (.int .i64 (prS T)) (.slice D q d) (.slice D' q' d'))
              have HB9 := Lib.hid (below_set3 (u := .int .i64 (prS T)) (v := .slice D q d) (z := .slice D' q' d') (HBA.out.trans (hP.out.below.mono HBA.out.size)) (show w.heap.size ≤ w.heap.size + 1 by omega))
              clear hm k0 k1 k2 k3 k4 k5
              generalize (((w4.setCell ⟨w.heap.size + 1, 0, none⟩ (.int .i64 (prS T))).setCell ⟨w.heap.size + 1, 1, none⟩ (.slice D q d)).setCell ⟨w.heap.size + 1, 2, none⟩ (.slice D' q' d')).drew = w9 at *
              go_wp2
              refine bodyPost_ret (results_tct_row rfl _ _ (w.heap.size + 1) _ #[.int .i64 (prS T), .slice D q d, .slice D' q' d'] (0, 0) _ rfl HM9.out Try.underlying64 rfl info_pt) rfl ?_
              exact ⟨D, q, d, D', q', d', by rw [F.out, F2.out, ← HSM.out.1, ← HSM.out.2.1] <;> rfl, by rw [F2.out, ← HSM.out.2.2.1]; exact P9.out.a1, by rw [F2.out, ← HSM.out.2.2.2.1]; exact P9.out.a2, HB9.out⟩
          · obtain ⟨e1, e2⟩ := HCO.out (fun k => hT (HSM.out.2.2.2.2.2 k))
            have F := Lib.hid e1
            have F2 := Lib.hid e2
            generalize hfb : prB T = fb at *
            obtain rfl : fb = false := hfb.symm.trans (prB_no hT)
            clear e1 e2 hfb hT
            go_wp2_with (refine wpList_store_rowTo rfl _ _ _ rfl rfl (w.heap.size + 1) zeroPt rfl rfl 64 zeroPt v2.out info_pt rfl hone0.out ?_)
            refine bodyPost_ret (results_tct_row rfl _ _ (w.heap.size + 1) _ zeroPt (0, 0) _ rfl (row_set v2.out) Try.underlying64 rfl info_pt) rfl ?_
            exact nwPost_bad F.out F2.out (below_setRow (HBA.out.trans (hP.out.below.mono HBA.out.size)) (by omega) _)
    · have HEND : Hid (SameP (pnT cs ws 2) (nwT cs ws)) := pn_end ⟨fun h => rfl, fun h => by omega⟩
      go_enter Try.func38, Try.ntmps38
      go_wp2_with (go_at_call 60; rw [← HWA.out]; refine HCK.out.mono ?_; rintro e w1 ⟨rfl, hb1⟩; obtain ⟨v0, v1, vl, _⟩ := HC.out w1 hb1; have HB1 := Lib.hid hb1; clear hb1)
      have E0 : Hid (NpI cs ws 64 w1.heap.size wa ⟨#[]⟩ 0 (w1.alloc (.cells zeroPt 64))) := by
        obtain ⟨_, b, c, d⟩ := pr_zero pr_empty
        refine { text := rfl, pt := ⟨none, 0, 0, none, 0, 0, ?_, ?_⟩, below := HB1.out.alloc HB1.out.size _, lo := HB1.out.size }
        · rw [b]; exact heap_alloc_new w1 _
        · rw [c, d]; exact PtR.nil _
      have HLO : Hid (wa.heap.size ≤ w1.heap.size) := HB1.out.size
      clear v0 v1 vl
      go_loopw [6, 7, 24] (fun v6 v7 v24 wr => ∃ (i : Nat) (T : ByteArray), i ≤ 2 ∧ v24 = .int .i64 i ∧ v6 = .int .i64 (prN T) ∧ v7 = .bool (prB T) ∧ Hid (NpI cs ws 64 w1.heap.size wa T i wr)) (fun _ _ v24 _ => 2 - (intOf v24).toNat)
      case atStart => exact ⟨0, ⟨#[]⟩, Nat.zero_le _, rfl, by rw [(pr_zero pr_empty).1], by rw [prB_no pr_empty], E0.out⟩
      case round =>
        obtain ⟨i, T, hi, rfl, rfl, rfl, hP⟩ := hrel
        obtain ⟨w4, rfl⟩ : ∃ z : World, z = wr := ⟨_, rfl⟩
        obtain ⟨D, q, d, D', q', d', hM, hPt⟩ := hP.out.pt
        have HM := Lib.hid hM
        have HP := Lib.hid hPt
        clear hM hPt E0
        by_cases hlt : i < 2
        · have hil : i < cs.length := by omega
          have i1 : (i : Int) < 2 := by omega
          have HNX : Hid (pnT cs ws (i + 1) = nstep T (nowS cs ws i)) := by rw [hP.out.text]; rfl
          have HRt := Lib.hid (HRE.out (nowS cs ws i))
          have HCt := Lib.hid (HCE.out i)
          obtain ⟨u0, u1, u2, _⟩ := HC.out w4 hP.out.below
          clear HCE
          generalize nowS cs ws i = t at *
          have HCE : Hid (∀ (k : Nat) W, k < cs.length → Below wa.heap.size wa W → k = i → Calls Try.prog 65 #[.agg #[.slice A cs.length c, .slice A' ws.length c'], .int .i64 k] W fun e w' => e = .returned (.string t) ∧ Below W.heap.size W w') := fun k W hk h e => by subst e; exact HCt.out W hk h
          clear HCt
          by_cases hp1 : prE t = 0
          · by_cases hp0 : prE T = 0
            · have HFB : Hid (prB T = true) := prB_yes hp0
              by_cases hnn : prN T < prN t
              · generalize hfb : prB T = fb at *
                obtain rfl : fb = true := hfb.symm.trans (prB_yes hp0)
                clear hfb
                have HS := Lib.hid (HNX.out.trans (nstep_yes hp1 (.inr hnn)))
                have HPB : Hid (prB t = true) := prB_yes hp1
                rw [hp1] at HRt
                clear hp1
                go_upto_if 45 with (first
                  | (go_at_call 65; refine (HCE.out i _ hil hP.out.below rfl).mono ?_; rintro e w5 ⟨rfl, hb5⟩; have HM5 := Lib.hid (row_below HM.out (row_lt HM.out) hb5); have P5 := Lib.hid (HP.out.go hb5); have HB5 := Lib.hid (hP.out.below.trans (hb5.mono hP.out.below.size)); clear hb5)
                  | (go_at_call 36; refine (HRt.out _).mono ?_; rintro e w6 ⟨G, g, h, G', g', h', rfl, r6, r6', hb6⟩; have HM6 := Lib.hid (row_below HM5.out (row_lt HM5.out) hb6); have P6 := Lib.hid (P5.out.go hb6); have HB6 := Lib.hid (HB5.out.trans (hb6.mono HB5.out.size)); have Q6 : Hid (PtR G g h G' g' h' (prP t) (prG t) w6) := ⟨r6, r6', prG_one _⟩; clear hb6 r6 r6'))
                have HM7 := Lib.hid (row_alloc HM6.out (.cells #[.int .i64 (prS t), .slice G g h, .slice G' g' h'] 64))
                have HN7 := Lib.hid (heap_alloc_new w6 (.cells #[.int .i64 (prS t), .slice G g h, .slice G' g' h'] 64))
                have P7 := Lib.hid (P6.out.new (.cells #[.int .i64 (prS t), .slice G g h, .slice G' g' h'] 64))
                have Q7 := Lib.hid (Q6.out.new (.cells #[.int .i64 (prS t), .slice G g h, .slice G' g' h'] 64))
                have HB7 := Lib.hid (HB6.out.alloc HB6.out.size (.cells #[.int .i64 (prS t), .slice G g h, .slice G' g' h'] 64))
                generalize w6.alloc (.cells #[.int .i64 (prS t), .slice G g h, .slice G' g' h'] 64) = w7 at *
                have k0 : w7.cell? ⟨w1.heap.size, 0, none⟩ = some (.int .i64 (prS T)) := row_cell HM7.out 0
                have k1 : w7.cell? ⟨w1.heap.size, 1, none⟩ = some (.slice D q d) := row_cell HM7.out 1
                have k2 : w7.cell? ⟨w1.heap.size, 2, none⟩ = some (.slice D' q' d') := row_cell HM7.out 2
                have k3 := row_cold HM7.out 0
                have k4 := row_cold HM7.out 1
                have k5 := row_cold HM7.out 2
                have l0 : w7.cell? ⟨w6.heap.size, 0, none⟩ = some (.int .i64 (prS t)) := row_cell HN7.out 0
                have l1 : w7.cell? ⟨w6.heap.size, 1, none⟩ = some (.slice G g h) := row_cell HN7.out 1
                have l2 : w7.cell? ⟨w6.heap.size, 2, none⟩ = some (.slice G' g' h') := row_cell HN7.out 2
                go_wp2_with fail
                go_region_law (fail)
                all_goals
                  have E : Hid (NpI cs ws 64 w1.heap.size wa t (i + 1) (((w7.setCell ⟨w1.heap.size, 0, none⟩ (.int .i64 (prS t))).setCell ⟨w1.heap.size, 1, none⟩ (.slice G g h)).setCell ⟨w1.heap.size, 2, none⟩ (.slice G' g' h')).drew) := { text := HS.out.symm, pt := ⟨G, g, h, G', g', h', ptrow_set rfl HM7.out, Q7.out.set3 HM7.out _ _ _⟩, below := below_set3 HB7.out HLO.out, lo := HLO.out }
                  clear k0 k1 k2 k3 k4 k5
                  go_wp2_with fail
                  go_roundw
                  case rel => exact ⟨i + 1, t, by omega, by go_num, rfl, by rw [HPB.out], E.out⟩
                  case measure => (simp [intOf]; try omega)
              · generalize hfb : prB T = fb at *
                obtain rfl : fb = true := hfb.symm.trans (prB_yes hp0)
                have HFC : Hid (prB T = true) := prB_yes hp0
                clear hfb
                have HS := Lib.hid (HNX.out.trans (nstep_old hp0 hnn))
                rw [hp1] at HRt
                clear hp1 hp0
                go_upto_if 45 with (first
                  | (go_at_call 65; refine (HCE.out i _ hil hP.out.below rfl).mono ?_; rintro e w5 ⟨rfl, hb5⟩; have HM5 := Lib.hid (row_below HM.out (row_lt HM.out) hb5); have P5 := Lib.hid (HP.out.go hb5); have HB5 := Lib.hid (hP.out.below.trans (hb5.mono hP.out.below.size)); clear hb5)
                  | (go_at_call 36; refine (HRt.out _).mono ?_; rintro e w6 ⟨G, g, h, G', g', h', rfl, r6, r6', hb6⟩; have HM6 := Lib.hid (row_below HM5.out (row_lt HM5.out) hb6); have P6 := Lib.hid (P5.out.go hb6); have HB6 := Lib.hid (HB5.out.trans (hb6.mono HB5.out.size)); have Q6 : Hid (PtR G g h G' g' h' (prP t) (prG t) w6) := ⟨r6, r6', prG_one _⟩; clear hb6 r6 r6'))
                have HM7 := Lib.hid (row_alloc HM6.out (.cells #[.int .i64 (prS t), .slice G g h, .slice G' g' h'] 64))
                have HN7 := Lib.hid (heap_alloc_new w6 (.cells #[.int .i64 (prS t), .slice G g h, .slice G' g' h'] 64))
                have P7 := Lib.hid (P6.out.new (.cells #[.int .i64 (prS t), .slice G g h, .slice G' g' h'] 64))
                have Q7 := Lib.hid (Q6.out.new (.cells #[.int .i64 (prS t), .slice G g h, .slice G' g' h'] 64))
                have HB7 := Lib.hid (HB6.out.alloc HB6.out.size (.cells #[.int .i64 (prS t), .slice G g h, .slice G' g' h'] 64))
                have E : Hid (NpI cs ws 64 w1.heap.size wa T (i + 1) (w6.alloc (.cells #[.int .i64 (prS t), .slice G g h, .slice G' g' h'] 64))) := { text := HS.out.symm, pt := ⟨D, q, d, D', q', d', HM7.out, P7.out⟩, below := HB7.out, lo := HLO.out }
                go_wp2_with fail
                go_roundw
                case rel => exact ⟨i + 1, T, by omega, by go_num, rfl, by rw [HFC.out], E.out⟩
                case measure => (simp [intOf]; try omega)
            · have HFB : Hid (prB T = false) := prB_no hp0
              generalize hfb : prB T = fb at *
              obtain rfl : fb = false := hfb.symm.trans (prB_no hp0)
              clear hfb
              have HS := Lib.hid (HNX.out.trans (nstep_yes hp1 (.inl hp0)))
              have HPB : Hid (prB t = true) := prB_yes hp1
              rw [hp1] at HRt
              clear hp1
              go_upto_if 45 with (first
                | (go_at_call 65; refine (HCE.out i _ hil hP.out.below rfl).mono ?_; rintro e w5 ⟨rfl, hb5⟩; have HM5 := Lib.hid (row_below HM.out (row_lt HM.out) hb5); have P5 := Lib.hid (HP.out.go hb5); have HB5 := Lib.hid (hP.out.below.trans (hb5.mono hP.out.below.size)); clear hb5)
                | (go_at_call 36; refine (HRt.out _).mono ?_; rintro e w6 ⟨G, g, h, G', g', h', rfl, r6, r6', hb6⟩; have HM6 := Lib.hid (row_below HM5.out (row_lt HM5.out) hb6); have P6 := Lib.hid (P5.out.go hb6); have HB6 := Lib.hid (HB5.out.trans (hb6.mono HB5.out.size)); have Q6 : Hid (PtR G g h G' g' h' (prP t) (prG t) w6) := ⟨r6, r6', prG_one _⟩; clear hb6 r6 r6'))
              have HM7 := Lib.hid (row_alloc HM6.out (.cells #[.int .i64 (prS t), .slice G g h, .slice G' g' h'] 64))
              have HN7 := Lib.hid (heap_alloc_new w6 (.cells #[.int .i64 (prS t), .slice G g h, .slice G' g' h'] 64))
              have P7 := Lib.hid (P6.out.new (.cells #[.int .i64 (prS t), .slice G g h, .slice G' g' h'] 64))
              have Q7 := Lib.hid (Q6.out.new (.cells #[.int .i64 (prS t), .slice G g h, .slice G' g' h'] 64))
              have HB7 := Lib.hid (HB6.out.alloc HB6.out.size (.cells #[.int .i64 (prS t), .slice G g h, .slice G' g' h'] 64))
              generalize w6.alloc (.cells #[.int .i64 (prS t), .slice G g h, .slice G' g' h'] 64) = w7 at *
              have k0 : w7.cell? ⟨w1.heap.size, 0, none⟩ = some (.int .i64 (prS T)) := row_cell HM7.out 0
              have k1 : w7.cell? ⟨w1.heap.size, 1, none⟩ = some (.slice D q d) := row_cell HM7.out 1
              have k2 : w7.cell? ⟨w1.heap.size, 2, none⟩ = some (.slice D' q' d') := row_cell HM7.out 2
              have k3 := row_cold HM7.out 0
              have k4 := row_cold HM7.out 1
              have k5 := row_cold HM7.out 2
              have l0 : w7.cell? ⟨w6.heap.size, 0, none⟩ = some (.int .i64 (prS t)) := row_cell HN7.out 0
              have l1 : w7.cell? ⟨w6.heap.size, 1, none⟩ = some (.slice G g h) := row_cell HN7.out 1
              have l2 : w7.cell? ⟨w6.heap.size, 2, none⟩ = some (.slice G' g' h') := row_cell HN7.out 2
              go_wp2_with fail
              go_region_law (fail)
              all_goals
                have E : Hid (NpI cs ws 64 w1.heap.size wa t (i + 1) (((w7.setCell ⟨w1.heap.size, 0, none⟩ (.int .i64 (prS t))).setCell ⟨w1.heap.size, 1, none⟩ (.slice G g h)).setCell ⟨w1.heap.size, 2, none⟩ (.slice G' g' h')).drew) := { text := HS.out.symm, pt := ⟨G, g, h, G', g', h', ptrow_set rfl HM7.out, Q7.out.set3 HM7.out _ _ _⟩, below := below_set3 HB7.out HLO.out, lo := HLO.out }
                clear k0 k1 k2 k3 k4 k5
                go_wp2_with fail
                go_roundw
                case rel => exact ⟨i + 1, t, by omega, by go_num, rfl, by rw [HPB.out], E.out⟩
                case measure => (simp [intOf]; try omega)
          · have g1 : (prE t == 0) = false := beq_eq_false_iff_ne.2 hp1
            have HFB : Hid (prB T = prB T) := rfl
            have HS := Lib.hid (HNX.out.trans (nstep_bad hp1))
            clear hp1
            go_upto_if 45 with (first
              | (go_at_call 65; refine (HCE.out i _ hil hP.out.below rfl).mono ?_; rintro e w5 ⟨rfl, hb5⟩; have HM5 := Lib.hid (row_below HM.out (row_lt HM.out) hb5); have P5 := Lib.hid (HP.out.go hb5); have HB5 := Lib.hid (hP.out.below.trans (hb5.mono hP.out.below.size)); clear hb5)
              | (go_at_call 36; refine (HRt.out _).mono ?_; rintro e w6 ⟨G, g, h, G', g', h', rfl, r6, r6', hb6⟩; have HM6 := Lib.hid (row_below HM5.out (row_lt HM5.out) hb6); have P6 := Lib.hid (P5.out.go hb6); have HB6 := Lib.hid (HB5.out.trans (hb6.mono HB5.out.size)); have Q6 : Hid (PtR G g h G' g' h' (prP t) (prG t) w6) := ⟨r6, r6', prG_one _⟩; clear hb6 r6 r6'))
            have HM7 := Lib.hid (row_alloc HM6.out (.cells #[.int .i64 (prS t), .slice G g h, .slice G' g' h'] 64))
            have HN7 := Lib.hid (heap_alloc_new w6 (.cells #[.int .i64 (prS t), .slice G g h, .slice G' g' h'] 64))
            have P7 := Lib.hid (P6.out.new (.cells #[.int .i64 (prS t), .slice G g h, .slice G' g' h'] 64))
            have Q7 := Lib.hid (Q6.out.new (.cells #[.int .i64 (prS t), .slice G g h, .slice G' g' h'] 64))
            have HB7 := Lib.hid (HB6.out.alloc HB6.out.size (.cells #[.int .i64 (prS t), .slice G g h, .slice G' g' h'] 64))
            have E : Hid (NpI cs ws 64 w1.heap.size wa T (i + 1) (w6.alloc (.cells #[.int .i64 (prS t), .slice G g h, .slice G' g' h'] 64))) := { text := HS.out.symm, pt := ⟨D, q, d, D', q', d', HM7.out, P7.out⟩, below := HB7.out, lo := HLO.out }
            go_wp2_with fail
            go_roundw
            case rel => exact ⟨i + 1, T, by omega, by go_num, rfl, rfl, E.out⟩
            case measure => (simp [intOf]; try omega)
        · obtain rfl : i = 2 := by omega
          have i1 : ¬ (2 : Int) < 2 := by omega
          have HSM := Lib.hid (show SameP T (nwT cs ws) by rw [hP.out.text]; exact HEND.out)
          obtain ⟨_, _, _, v2⟩ := HC.out w4 hP.out.below
          by_cases hT : prE T = 0
          · obtain ⟨e1, e2⟩ := HOK.out (HSM.out.2.2.2.2.1 hT)
            have F := Lib.hid e1
            have F2 := Lib.hid e2
            have k0 : w4.cell? ⟨w.heap.size + 1, 0, none⟩ = some (.int .i64 0) := row_cell v2.out 0
            have k1 : w4.cell? ⟨w.heap.size + 1, 1, none⟩ = some (.slice none 0 0) := row_cell v2.out 1
            have k2 : w4.cell? ⟨w.heap.size + 1, 2, none⟩ = some (.slice none 0 0) := row_cell v2.out 2
            have k3 := row_cold v2.out 0
            have k4 := row_cold v2.out 1
            have k5 := row_cold v2.out 2
            have l0 : w4.cell? ⟨w1.heap.size, 0, none⟩ = some (.int .i64 (prS T)) := row_cell HM.out 0
            have l1 : w4.cell? ⟨w1.heap.size, 1, none⟩ = some (.slice D q d) := row_cell HM.out 1
            have l2 : w4.cell? ⟨w1.heap.size, 2, none⟩ = some (.slice D' q' d') := row_cell HM.out 2
            generalize hfb : prB T = fb at *
            obtain rfl : fb = true := hfb.symm.trans (prB_yes hT)
            clear e1 e2 hfb hT
            go_wp2_with fail
            go_region_law (fail)
            all_goals
              have hm := ptrow_set (x' := prS T) (G := D) (g := q) (h := d) (G' := D') (g' := q') (h' := d') rfl v2.out
              have HM9 := Lib.hid hm
              have P9 := Lib.hid (HP.out.set3 v2.out (.int .i64 (prS T)) (.slice D q d) (.slice D' q' d'))
              have HB9 := Lib.hid (below_set3 (u := .int .i64 (prS T)) (v := .slice D q d) (z := .slice D' q' d') (HBA.out.trans (hP.out.below.mono HBA.out.size)) (show w.heap.size ≤ w.heap.size + 1 by omega))
              clear hm k0 k1 k2 k3 k4 k5
              generalize (((w4.setCell ⟨w.heap.size + 1, 0, none⟩ (.int .i64 (prS T))).setCell ⟨w.heap.size + 1, 1, none⟩ (.slice D q d)).setCell ⟨w.heap.size + 1, 2, none⟩ (.slice D' q' d')).drew = w9 at *
              go_wp2
              refine bodyPost_ret (results_tct_row rfl _ _ (w.heap.size + 1) _ #[.int .i64 (prS T), .slice D q d, .slice D' q' d'] (0, 0) _ rfl HM9.out Try.underlying64 rfl info_pt) rfl ?_
              exact ⟨D, q, d, D', q', d', by rw [F.out, F2.out, ← HSM.out.1, ← HSM.out.2.1] <;> rfl, by rw [F2.out, ← HSM.out.2.2.1]; exact P9.out.a1, by rw [F2.out, ← HSM.out.2.2.2.1]; exact P9.out.a2, HB9.out⟩
          · obtain ⟨e1, e2⟩ := HCO.out (fun k => hT (HSM.out.2.2.2.2.2 k))
            have F := Lib.hid e1
            have F2 := Lib.hid e2
            generalize hfb : prB T = fb at *
            obtain rfl : fb = false := hfb.symm.trans (prB_no hT)
            clear e1 e2 hfb hT
            go_wp2_with (refine wpList_store_rowTo rfl _ _ _ rfl rfl (w.heap.size + 1) zeroPt rfl rfl 64 zeroPt v2.out info_pt rfl hone0.out ?_)
            refine bodyPost_ret (results_tct_row rfl _ _ (w.heap.size + 1) _ zeroPt (0, 0) _ rfl (row_set v2.out) Try.underlying64 rfl info_pt) rfl ?_
            exact nwPost_bad F.out F2.out (below_setRow (HBA.out.trans (hP.out.below.mono HBA.out.size)) (by omega) _)
  · obtain ⟨e1, e2⟩ := nw_bad hd
    have F := Lib.hid e1
    have F2 := Lib.hid e2
    have i4 : (dskE cs ws != 0) = true := bne_iff_ne.2 hd
    generalize dskE cs ws = de at *
    clear hd e1 e2
    go_enter Try.func38, Try.ntmps38
    go_wp2_with (first
      | (go_at_call 60; rw [← HWA.out]; refine HCK.out.mono ?_; rintro e w1 ⟨rfl, hb1⟩; obtain ⟨v0, v1, _, v2⟩ := HC.out w1 hb1; have HB1 := Lib.hid hb1; clear hb1)
      | (refine wpList_store_rowTo rfl _ _ _ rfl rfl (w.heap.size + 1) zeroPt rfl rfl 64 zeroPt v2.out info_pt rfl hone0.out ?_))
    refine bodyPost_ret (results_tct_row rfl _ _ (w.heap.size + 1) _ zeroPt (0, 0) _ rfl (row_set v2.out) Try.underlying64 rfl info_pt) rfl ?_
    exact nwPost_bad F.out F2.out (below_setRow (HBA.out.trans (HB1.out.mono HBA.out.size)) (by omega) _)
end Go.Proofs.Ytjmgocfoimhmjaa
