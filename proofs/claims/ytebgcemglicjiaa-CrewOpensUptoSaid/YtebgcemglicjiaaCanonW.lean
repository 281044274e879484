/- lens.Canon, walked. -/
import Derived.Test.YtebgcemglicjiaaCanonS
import Derived.Test.YtebgcemglicjiaaCanonR
namespace Go.Proofs.Ytebgcemglicjiaa
open Go.RowKit

theorem zero_17 : ∀ W : World, (zeroValue 134).run Try.prog W = .ok (.agg (numR 17 (fun _ => 0))) W := fun W => by
  rw [← numR_zero]; kernel_rfl
theorem under_17 : Try.prog.underlying 134 = some (.array 17 3) := by kernel_rfl
theorem mk_i64 (N : Nat) (hN : N ≤ 320) : ∀ W : World, (Instr.makeSlice 63 (.int .i64 (N : Int)) (.int .i64 (N : Int))).run Try.prog W = .ok (.slice (some ⟨W.heap.size, 0, none⟩) N N) (W.alloc (.cells (numR N (fun _ => 0)) 3)) := fun W => by
  obtain ⟨i, hi, hzz⟩ := Option.map_eq_some_iff.1 info_i64c
  simp only [Prod.mk.injEq] at hzz
  obtain ⟨hz, hs, hbb⟩ := hzz
  have := run_make (P := Try.prog) W 63 3 i (.int .i64 0) Try.underlying63 hi hz .i64 .i64 N N (by omega) (by omega) (by rw [hbb]; omega) (by omega)
  rw [hs] at this
  rw [this, Int.toNat_natCast]
  have e : madeCells (Value.int .i64 0).cells (N * 1) = numR N (fun _ => 0) := by
    rw [← numR_zero]
    apply Array.ext'
    rw [Nat.mul_one, Array.toList_replicate]
    exact toList_madeCells_one _ _
  rw [e]

theorem keepC2 {W : World} {b k b' k' b'' k'' : Nat} {u v x : Value} (h0 : b ≠ b'') (h1 : k' ≠ k'') (h : W.cell? ⟨b, k, none⟩ = some u ∧ W.cell? ⟨b', k', none⟩ = some v) : (W.setCell ⟨b'', k'', none⟩ x).cell? ⟨b, k, none⟩ = some u ∧ (W.setCell ⟨b'', k'', none⟩ x).cell? ⟨b', k', none⟩ = some v := by
  refine ⟨?_, ?_⟩
  · rw [World.cell?_setCell_other _ _ _ _ (fun e => by injection e with e _ _; omega)]; exact h.1
  · rw [World.cell?_setCell_other _ _ _ _ (fun e => by injection e with _ e _; omega)]; exact h.2
set_option maxRecDepth 20000 in
set_option maxHeartbeats 1000000 in
theorem canon_any (A : Option Addr) (n c : Nat) (xs : List Int) (w : World) (r : RowsIn w w.heap.size A n c (fun z => [.int .i64 z]) 1 xs) :
    Calls Try.prog 72 #[.slice A n c] w fun e w' => ∃ A q c, e = .returned (.tuple #[.slice A q c, .int .i64 (canE xs)]) ∧ RowsIn w' w'.heap.size A q c (fun z => [.int .i64 z]) 1 (canX xs) ∧ Below w.heap.size w w' := by
  have hlen := r.len
  obtain rfl := hlen
  have H := Lib.hid (fill_any A xs.length c xs w.heap.size w r)
  by_cases hE : fillE xs = 0
  · obtain ⟨hL, hA⟩ := fillE_zero hE
    have HA := Lib.hid hA
    by_cases hO : 32768 < fillV xs
    · have F := Lib.hid (can_over hE hO)
      rw [hE] at H
      generalize fillV xs = fv at *
      clear hE hA
      go_enter Try.func72, Try.ntmps72
      go_wp2_with (go_at_call 78; refine H.out.mono ?_; rintro e w' ⟨rfl, rfl⟩)
      go_ret2
      exact ⟨none, 0, 0, by rw [F.out.1]; rfl, by rw [F.out.2]; exact no_intsC _ _, Below.refl _ _⟩
    · have F := Lib.hid (can_ok hE hO)
      rw [hE] at H
      have hO' : fillV xs ≤ 32768 := by omega
      have HF : Hid (fsum xs ≤ 32768) := by simp only [Hid]; rw [← (fill_ok hL hA).1]; exact hO'
      generalize fillV xs = fv at *
      clear hE hA hO
      have hz := zero_17
      go_enter Try.func72, Try.ntmps72
      go_wp2_with (go_at_call 78; refine H.out.mono ?_; rintro e w' ⟨rfl, rfl⟩)
      clear H hz
      go_loopw [26] (fun v26 wr => ∃ i : Nat, i ≤ xs.length ∧ v26 = .int .i64 i ∧ Hid (wr.heap[w.heap.size]? = some (.cells (rowC xs i) 134 (0, 0))) ∧ Hid (wr.heap[w.heap.size + 1]? = some (.cells (rowN xs 1) 134 (0, 0))) ∧ Below w.heap.size w wr) (fun v26 _ => xs.length - (intOf v26).toNat)
      case atStart => exact ⟨0, Nat.zero_le _, rfl, by rw [rowC_zero]; exact heap_alloc2_old _ _ _, by rw [rowN_one]; exact heap_alloc2_new _ _ _, ((Below.refl _ _).alloc (Nat.le_refl _) _).alloc (by simp) _⟩
      case round =>
        obtain ⟨i, hi, rfl, hr0, hr1, hb⟩ := hrel
        by_cases hlt : i < xs.length
        · have e1 := List.getElem?_eq_getElem hlt
          obtain ⟨b, o, rfl, hbB, hc⟩ := (r.below hb).one e1
          have hx := HA.out xs[i] (List.getElem_mem hlt)
          obtain ⟨X, hX⟩ := Int.eq_ofNat_of_zero_le hx.1
          rw [hX] at hc e1 hx
          have HS := Lib.hid (rowC_set e1)
          clear e1 hX
          have hX : X ≤ 15 := by omega
          have hX17 : X < 17 := by omega
          have hg := row_cell hr0.out X
          rw [rowC_get xs i hX17] at hg
          have hf := row_cold hr0.out X
          have hcb := cntW_bd X (xs.take i)
          have htl : (xs.take i).length ≤ 320 := by simp; omega
          generalize cntW X (xs.take i) = v at *
          go_wp2
          have hr0' : Hid ((wr.setCell ⟨w.heap.size, X, none⟩ (.int .i64 (v + 1))).heap[w.heap.size]? = some (.cells (rowC xs (i + 1)) 134 (0, 0))) := by
            have := row_store (j := X) (v := .int .i64 (v + 1)) hr0.out
            rw [HS.out] at this
            exact this
          have hr1' : Hid ((wr.setCell ⟨w.heap.size, X, none⟩ (.int .i64 (v + 1))).heap[w.heap.size + 1]? = some (.cells (rowN xs 1) 134 (0, 0))) := row_other hr1.out (show w.heap.size + 1 ≠ w.heap.size by omega)
          have hb' := hb.setCell (p := ⟨w.heap.size, X, none⟩) (Nat.le_refl _) (.int .i64 (v + 1))
          clear hr0 hr1 hb
          go_roundw
          case rel => exact ⟨i + 1, by omega, by go_num, hr0', hr1', hb'⟩
          case measure => (simp [intOf]; try omega)
        · obtain rfl : i = xs.length := by omega
          have hg := row_cell hr0.out 0
          rw [rowC_get xs _ (by omega)] at hg
          have hf := row_cold hr0.out 0
          go_wp2
          have hr0' : Hid ((wr.setCell ⟨w.heap.size, 0, none⟩ (.int .i64 0)).heap[w.heap.size]? = some (.cells (rowK xs) 134 (0, 0))) := by
            have := row_store (j := 0) (v := .int .i64 0) hr0.out
            rw [rowK_set] at this
            exact this
          have hr1' : Hid ((wr.setCell ⟨w.heap.size, 0, none⟩ (.int .i64 0)).heap[w.heap.size + 1]? = some (.cells (rowN xs 1) 134 (0, 0))) := row_other hr1.out (show w.heap.size + 1 ≠ w.heap.size by omega)
          have hb' := hb.setCell (p := ⟨w.heap.size, 0, none⟩) (Nat.le_refl _) (.int .i64 0)
          clear hr0 hr1 hb hg hf
          generalize wr.setCell ⟨w.heap.size, 0, none⟩ (.int .i64 0) = wz at *
          go_loopw [10] (fun v10 wr => ∃ k : Nat, 1 ≤ k ∧ k ≤ 16 ∧ v10 = .int .i64 k ∧ Hid (wr.heap[w.heap.size]? = some (.cells (rowK xs) 134 (0, 0))) ∧ Hid (wr.heap[w.heap.size + 1]? = some (.cells (rowN xs k) 134 (0, 0))) ∧ Below w.heap.size w wr) (fun v10 _ => 16 - (intOf v10).toNat)
          case atStart => exact ⟨1, Nat.le_refl _, by omega, rfl, hr0', hr1', hb'⟩
          case round =>
            clear hr0' hr1' hb'
            obtain ⟨k, hk1, hk, rfl, hr0, hr1, hb⟩ := hrel
            by_cases hlt : k < 16
            · have h15 : (k : Int) ≤ 15 := by omega
              have hk17 : k < 17 := by omega
              have hkk17 : k + 1 < 17 := by omega
              have hg0 := row_cell hr0.out k
              rw [rowK_get xs hk1 hk17] at hg0
              have hg1 := row_cell hr1.out k
              rw [rowN_get xs hk1 hk17] at hg1
              have hg2 := row_cell hr1.out (k + 1)
              rw [rowN_next xs hlt] at hg2
              have hf2 := row_cold hr1.out (k + 1)
              have HS := Lib.hid (rowN_set xs hk1)
              have hbd := low_bd HA.out HF.out (k := k) (by omega) h15
              generalize lowW k xs = lo at *
              generalize cntW k xs = cn at *
              obtain ⟨hb0, hb1, hb2⟩ := hbd
              go_wp2
              have HS0 : wr.cell? ⟨w.heap.size, k, none⟩ = some (.int .i64 cn) ∧ wr.cell? ⟨w.heap.size + 1, k, none⟩ = some (.int .i64 lo) := ⟨hg0, hg1⟩
              have hg3 : wr.drew.cell? ⟨w.heap.size + 1, k + 1, none⟩ = some (.int .i64 0) := hg2
              have hf3 : wr.drew.frozen? ⟨w.heap.size + 1, k + 1, none⟩ = false := hf2
              clear hg2 hf2 hg0 hg1
              have a1 : (k : Int) < 17 := by omega
              have a2 : (k : Int) + 1 < 17 := by omega
              have a3 : (0 : Int) ≤ (k : Int) := by omega
              have a4 : (0 : Int) ≤ (k : Int) + 1 := by omega
              have a5 : IntKind.i64.wrap ((k : Int) + 1) = (k : Int) + 1 := by rw [IntKind.wrap_i64]; omega
              have a6 : IntKind.i64.wrap (lo + cn) = lo + cn := by rw [IntKind.wrap_i64]; omega
              have a7 : IntKind.i64.wrap ((lo + cn) * 2) = (lo + cn) * 2 := by rw [IntKind.wrap_i64]; omega
              go_region_held3 (fun W => W.cell? ⟨w.heap.size, k, none⟩ = some (.int .i64 cn) ∧ W.cell? ⟨w.heap.size + 1, k, none⟩ = some (.int .i64 lo))
                (first | assumption | exact HS0 | exact keepC2 (by omega) (by omega) (by assumption)) (fail)
              all_goals
                have hr0' : Hid ((wr.setCell ⟨w.heap.size + 1, k + 1, none⟩ (.int .i64 ((lo + cn) * 2))).drew.heap[w.heap.size]? = some (.cells (rowK xs) 134 (0, 0))) := row_other (a := ⟨w.heap.size + 1, k + 1, none⟩) hr0.out (show w.heap.size ≠ w.heap.size + 1 by omega)
                have hr1' : Hid ((wr.setCell ⟨w.heap.size + 1, k + 1, none⟩ (.int .i64 ((lo + cn) * 2))).drew.heap[w.heap.size + 1]? = some (.cells (rowN xs (k + 1)) 134 (0, 0))) := by
                  have := row_store (j := k + 1) (v := .int .i64 ((lo + cn) * 2)) hr1.out
                  rw [HS.out] at this
                  exact this
                have hb' : Below w.heap.size w (wr.setCell ⟨w.heap.size + 1, k + 1, none⟩ (.int .i64 ((lo + cn) * 2))).drew := (hb.setCell (p := ⟨w.heap.size + 1, k + 1, none⟩) (by simp) (.int .i64 ((lo + cn) * 2))).drew
                clear hr0 hr1 hb HS0 hg3 hf3
                generalize (wr.setCell ⟨w.heap.size + 1, k + 1, none⟩ (.int .i64 ((lo + cn) * 2))).drew = w3 at *
                go_wp2
                go_roundw
                case rel => exact ⟨k + 1, by omega, by omega, by go_num, hr0', hr1', hb'⟩
                case measure => (simp [intOf]; try omega)
            · obtain rfl : k = 16 := by omega
              have hr1' := hr1.out
              rw [rowX_zero] at hr1'
              have hmk := mk_i64 xs.length hL
              have hsz := row_lt hr1'
              have hr3 := row_alloc hr1' (.cells (numR xs.length (fun _ => 0)) 3)
              have hr4 := heap_alloc_new wr (.cells (numR xs.length (fun _ => 0)) 3)
              rw [← rowO_zero] at hr4
              have HR3 := Lib.hid hr3
              have HR4 := Lib.hid hr4
              have hb4 := hb.alloc (by omega) (.cells (numR xs.length (fun _ => 0)) 3)
              obtain ⟨wo, rfl⟩ : ∃ wo : World, wo = wr := ⟨_, rfl⟩
              clear hr0 hr1 hr1' hr3 hr4
              go_wp2
              clear hmk
              go_loopw [57] (fun v57 wr => ∃ i : Nat, i ≤ xs.length ∧ v57 = .int .i64 i ∧ Hid (wr.heap[w.heap.size + 1]? = some (.cells (rowX xs i) 134 (0, 0))) ∧ Hid (wr.heap[wo.heap.size]? = some (.cells (rowO xs i) 3 (0, 0))) ∧ Below w.heap.size w wr) (fun v57 _ => xs.length - (intOf v57).toNat)
              case atStart => exact ⟨0, Nat.zero_le _, rfl, HR3, HR4, hb4⟩
              case round =>
                clear HR3 HR4 hb4
                obtain ⟨i, hi, rfl, hr0, hr1, hb⟩ := hrel
                have hne := Lib.hid (show wo.heap.size ≠ w.heap.size + 1 by omega)
                have hge := Lib.hid (show w.heap.size ≤ wo.heap.size by omega)
                clear hsz
                by_cases hlt : i < xs.length
                · have e1 := List.getElem?_eq_getElem hlt
                  obtain ⟨b, o, rfl, hbB, hc⟩ := (r.below hb).one e1
                  have hx := HA.out xs[i] (List.getElem_mem hlt)
                  obtain ⟨X, hX⟩ := Int.eq_ofNat_of_zero_le hx.1
                  rw [hX] at hc e1 hx
                  clear hX
                  rcases (show X = 0 ∨ 1 ≤ X by omega) with h0 | h0
                  · subst h0
                    have hr0' : Hid (wr.heap[w.heap.size + 1]? = some (.cells (rowX xs (i + 1)) 134 (0, 0))) := by simp only [Hid]; rw [← rowX_skip e1]; exact hr0.out
                    have hr1' : Hid (wr.heap[wo.heap.size]? = some (.cells (rowO xs (i + 1)) 3 (0, 0))) := by simp only [Hid]; rw [← rowO_skip e1]; exact hr1.out
                    clear hr0 hr1 e1
                    go_wp2
                    go_roundw
                    case rel => exact ⟨i + 1, by omega, by go_num, hr0', hr1', hb⟩
                    case measure => (simp [intOf]; try omega)
                  · have hX17 : X < 17 := by omega
                    have hXp : (0 : Int) < (X : Int) := by omega
                    have HS0 := Lib.hid (rowX_set e1 h0)
                    have HS1 := Lib.hid (rowO_set e1 h0)
                    have hbd := low_bd_take HA.out HF.out (k := X) (by omega) hx.2 i
                    have hg0 := row_cell hr0.out X
                    rw [rowX_get xs i h0 hX17] at hg0
                    have hf0 := row_cold hr0.out X
                    have hg1 := row_cell hr1.out i
                    rw [rowO_cell xs hlt] at hg1
                    have hf1 := row_cold hr1.out i
                    generalize lowW X xs + cntW X (xs.take i) = v at *
                    clear e1
                    have hr0a := row_other (a := ⟨wo.heap.size, i, none⟩) (v := .int .i64 v) hr0.out (fun e => hne.out e.symm)
                    have hr1a := row_store (j := i) (v := .int .i64 v) hr1.out
                    rw [HS1.out] at hr1a
                    have hg0a := (row_cell hr0a X).trans ((row_cell hr0.out X).symm.trans hg0)
                    have hf0a := row_cold hr0a X
                    have hr0b := row_store (j := X) (v := .int .i64 (v + 1)) hr0a
                    rw [HS0.out] at hr0b
                    have hr1b := row_other (a := ⟨w.heap.size + 1, X, none⟩) (v := .int .i64 (v + 1)) hr1a hne.out
                    have hb' := (hb.setCell (p := ⟨wo.heap.size, i, none⟩) hge.out (.int .i64 v)).setCell (p := ⟨w.heap.size + 1, X, none⟩) (by simp) (.int .i64 (v + 1))
                    have HR0 := Lib.hid hr0b
                    have HR1 := Lib.hid hr1b
                    clear hr0 hr1 hb hr0a hr1a hr0b hr1b
                    go_wp2
                    go_roundw
                    case rel => exact ⟨i + 1, by omega, by go_num, HR0, HR1, hb'⟩
                    case measure => (simp [intOf]; try omega)
                · obtain rfl : i = xs.length := by omega
                  have F1 := Lib.hid F.out.1
                  have F2 := Lib.hid F.out.2
                  have HR1 := hr1
                  have hlt2 := row_lt hr1.out
                  clear hr0 hr1 F
                  go_wp2
                  go_ret2
                  refine ⟨_, _, _, by rw [F1.out]; rfl, ?_, hb⟩
                  rw [F2.out]
                  exact ⟨canL_length _ _, Nat.le_refl _, by unfold maxLen; omega, fun k u hk => ⟨_, _, rfl, hlt2, fun j z hz => by
                    rcases j with _ | j
                    · obtain rfl : Value.int .i64 u = z := by simpa using hz
                      rw [row_cell HR1.out]
                      have := rowO_get xs hk
                      simpa using this
                    · simp at hz⟩⟩
  · have F := Lib.hid (can_fill hE)
    have hne : (fillE xs != 0) = true := bne_iff_ne.2 hE
    generalize fillV xs = fv at *
    generalize fillE xs = fe at *
    clear hE
    go_enter Try.func72, Try.ntmps72
    go_wp2_with (go_at_call 78; refine H.out.mono ?_; rintro e w' ⟨rfl, rfl⟩)
    go_ret2
    exact ⟨none, 0, 0, by rw [F.out.1]; rfl, by rw [F.out.2]; exact no_intsC _ _, Below.refl _ _⟩
end Go.Proofs.Ytebgcemglicjiaa
