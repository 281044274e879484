/- blob.Read, walked. -/
import Derived.Test.YtjmgocfoimhmjaaBreadP
import Derived.Test.YtjmgocfoimhmjaaBlobW
import Derived.Test.YtjmgocfoimhmjaaGetW
import Derived.Test.YtjmgocfoimhmjaaBlk
import Derived.Test.YtjmgocfoimhmjaaHeld
import Derived.BigRegion
namespace Go.Proofs.Ytjmgocfoimhmjaa
open Go.RowKit Go.PlainAid

theorem info_blobR : (Try.prog.info? 71).map (fun i => (i.zero, i.size, i.bytes)) = some (some (.agg #[.int .i64 0, .int .i64 0, .int .i64 0, .string ByteArray.empty]), 4, 40) := by kernel_rfl
theorem blob_four : ∀ x : BlobD, x.cells.length = 4 := fun _ => rfl
theorem no_blobs (w : World) (B : Nat) : RowsIn w B none 0 0 BlobD.cells 4 [] := ⟨rfl, Nat.le_refl _, Nat.zero_le _, fun i x h => by simp at h⟩

/-- What blob.Read and its reference answer. -/
def BrPost (s : ByteArray) (w : World) (e : Ending) (w' : World) : Prop := ∃ A n c, e = .returned (.tuple #[.slice A n c, .bool (brB s), .int .i64 (brE s)]) ∧ RowsIn w' w'.heap.size A n c BlobD.cells 4 (brL s) ∧ Below w.heap.size w w'
theorem brPost_bad {s : ByteArray} {w w' : World} (h : ¬ BrOk s) (hb : Below w.heap.size w w') : BrPost s w (.returned (.tuple #[.slice none 0 0, .bool false, .int .i64 4])) w' := by
  obtain ⟨a, b, c⟩ := br_bad h
  exact ⟨none, 0, 0, by rw [a, c], by rw [b]; exact no_blobs _ _, hb⟩

theorem kept4d {w1 w2 : World} {v0 v1 v2 v3 : Value} {t : TypeId} (hb : Below (w1.alloc (.cells #[v0, v1, v2, v3] t)).drew.heap.size (w1.alloc (.cells #[v0, v1, v2, v3] t)).drew w2) :
    w2.cell? ⟨w1.heap.size, 0, none⟩ = some v0 ∧ w2.cell? ⟨w1.heap.size, 1, none⟩ = some v1 ∧ w2.cell? ⟨w1.heap.size, 2, none⟩ = some v2 ∧ w2.cell? ⟨w1.heap.size, 3, none⟩ = some v3 ∧ w1.heap.size < w2.heap.size := by
  have h : (w1.alloc (.cells #[v0, v1, v2, v3] t)).drew.heap[w1.heap.size]? = some (.cells #[v0, v1, v2, v3] t) := heap_alloc_new w1 (.cells #[v0, v1, v2, v3] t)
  have hz : w1.heap.size < (w1.alloc (.cells #[v0, v1, v2, v3] t)).drew.heap.size := by simp
  have h' := row_below h hz hb
  have := hb.size
  exact ⟨row_cell h' 0, row_cell h' 1, row_cell h' 2, row_cell h' 3, by omega⟩

set_option maxRecDepth 20000 in
set_option maxHeartbeats 2000000 in
theorem bread_any (s : ByteArray) (w : World) : Calls Try.prog 53 #[.string s] w (BrPost s w) := by
  have hgb := get_bt s
  by_cases h0 : 2 ≤ s.size ∧ s.size ≤ 1000
  · obtain ⟨lo, hi⟩ := h0
    have i0 : 0 < s.size := by omega
    have i1 : 1 < s.size := by omega
    by_cases hl : bt s 0 ≤ 1
    · by_cases hm : bt s 1 ≤ 40
      · obtain ⟨J, hJ⟩ : ∃ J : Nat, bt s 1 = (J : Int) := ⟨(bt s 1).toNat, by have := bt_nonneg s 1; omega⟩
        have HJ := Lib.hid hJ
        have hJ40 : J ≤ 40 := by omega
        have HI := Lib.hid i1
        have HL := Lib.hid hl
        rw [hJ] at hm
        go_enter Try.func53, Try.ntmps53
        go_wp2
        go_loopw [5, 6, 31] (fun v5 v6 v31 wr => ∃ j p : Nat, j ≤ J ∧ p ≤ s.size ∧ BrI s j p ∧ v31 = .int .u8 j ∧ v6 = .int .i64 p ∧ Owns wr w.heap.size 4 v5 j ((bents s j).flatMap BlobD.cells) ∧ Below w.heap.size w wr) (fun _ _ v31 _ => J - (intOf v31).toNat)
        case atStart => exact ⟨0, 2, Nat.zero_le _, lo, BrI.start s, rfl, rfl, Owns.nil _ _ _, Below.refl _ _⟩
        case round =>
          obtain ⟨j, p, hj, hp, hI, rfl, rfl, hown, hb⟩ := hrel
          obtain ⟨A, c, rfl⟩ := hown.form
          have hsz := hb.size
          by_cases hlt : j < J
          · have hnot := Lib.hid (hI.not (by rw [HJ.out]; omega))
            by_cases h3 : p + 3 ≤ s.size
            · have H : Hid (∀ W, Calls Try.prog 92 #[.string (s.extract (p + 3) s.size)] W fun e w' => e = .returned (.tuple #[.int .u64 (getV (bt (tl s (p + 3))) (tl s (p + 3)).size), .int .i64 (getN (bt (tl s (p + 3))) (tl s (p + 3)).size), .int .i64 (eE s p)]) ∧ W = w') := fun W => get_any _ W
              by_cases hE : eE s p = 0
              · obtain ⟨a1, a2, a3, a4, a5, _⟩ := ent_num (e_four hE) hE
                have h4 := e_four hE
                rw [a1, a2, hE] at H
                have HE := Lib.hid hE
                clear a1 a2 hE
                have HX := Lib.hid hI.ents
                have HS := Lib.hid (fun a b => hI.step (p := p) a b)
                have hEq : Hid (∀ n, n = eN s p → n = eN s p) := fun _ h => h
                unfold entE at hnot HS
                have hok4 : p + 3 + eK s p + eN s p ≤ s.size → EntOk s p := fun h => ⟨h4, HE.out, h⟩
                have hno4 : ¬ p + 3 + eK s p + eN s p ≤ s.size → ¬ EntOk s p := fun h k => h k.fits
                generalize eK s p = K at *
                generalize eN s p = N at *
                by_cases hf : p + 3 + K + N ≤ s.size
                · have hok := hok4 hf
                  have g : (N : Int) ≤ (s.size : Int) - p - 3 - K := by omega
                  have hK : (K : Int) ≤ 10 := by omega
                  obtain ⟨T, hT⟩ : ∃ T, T = s.extract (p + 3 + K) (p + 3 + K + N) := ⟨_, rfl⟩
                  have HT := Lib.hid hT
                  rw [← hT] at hnot HS HX
                  have C := Lib.hid (fun W => bchk_any (bt s p) (bt s (p + 1)) (bt s (p + 2)) T W)
                  clear hok4 hno4 hEq
                  have y1 := bt_nonneg s p; have y2 := bt_le s p; have y3 := bt_nonneg s (p + 1); have y4 := bt_le s (p + 1); have y5 := bt_nonneg s (p + 2); have y6 := bt_le s (p + 2)
                  have HF : Hid ((IntKind.i64.wrap ((p : Int) + 1) = (p : Int) + 1 ∧ IntKind.i64.wrap ((p : Int) + 2) = (p : Int) + 2 ∧ IntKind.i64.wrap ((p : Int) + 3) = (p : Int) + 3 ∧ IntKind.i64.wrap ((p : Int) + 3 + (K : Int)) = (p : Int) + 3 + (K : Int) ∧ IntKind.i64.wrap ((p : Int) + 3 + (K : Int) + (N : Int)) = (p : Int) + 3 + (K : Int) + (N : Int)) ∧ (IntKind.i64.wrap (bt s p) = bt s p ∧ IntKind.i64.wrap (bt s (p + 1)) = bt s (p + 1) ∧ IntKind.i64.wrap (bt s (p + 2)) = bt s (p + 2) ∧ IntKind.i64.wrap (N : Int) = (N : Int))) := by
                    simp only [Hid, IntKind.wrap_i64]; omega
                  clear y1 y2 y3 y4 y5 y6
                  have hcut : Hid (∀ W : World, (Instr.sliceAt 9 (.string s) (some (.int .i64 ((p : Int) + 3 + (K : Int)))) (some (.int .i64 ((p : Int) + 3 + (K : Int) + (N : Int)))) none).run Try.prog W = .ok (.string T) W) := by
                    have := run_cut (P := Try.prog) Try.underlying9 s (p + 3 + K) (p + 3 + K + N) (by omega) hf
                    rw [← hT] at this
                    simp only [Int.natCast_add, Int.cast_ofNat_Int] at this
                    exact this
                  have hix : Hid ((∀ W : World, (Instr.index 9 (.string s) (.int .i64 (p : Int))).run Try.prog W = .ok (.int .u8 (bt s p)) W) ∧ (∀ W : World, (Instr.index 9 (.string s) (.int .i64 ((p : Int) + 1))).run Try.prog W = .ok (.int .u8 (bt s (p + 1))) W) ∧ (∀ W : World, (Instr.index 9 (.string s) (.int .i64 ((p : Int) + 2))).run Try.prog W = .ok (.int .u8 (bt s (p + 2))) W)) :=
                    ⟨run_idx Try.underlying9 s _ p _ rfl (by omega) (hgb p (by omega)), run_idx Try.underlying9 s _ (p + 1) _ (by simp) (by omega) (hgb (p + 1) (by omega)), run_idx Try.underlying9 s _ (p + 2) _ (by simp) (by omega) (hgb (p + 2) (by omega))⟩
                  clear hT
                  go_wp2_with (go_at_call 92; refine (H.out _).mono ?_; rintro e w' ⟨rfl, rfl⟩)
                  clear g hK a3 a4 a5 h4 h3
                  have hcut := hcut.out
                  obtain ⟨⟨f7, f8, f9, f10, f11⟩, ⟨f12, f13, f14, f15⟩⟩ := HF.out
                  obtain ⟨x1, x2, x3⟩ := hix.out
                  go_region
                  clear f7 f8 f9 f10 f11 f12 f13 f14 f15 x1 x2 x3 hcut
                  have hob : Owns (wr.alloc (.cells #[.int .i64 (bt s p), .int .i64 (bt s (p + 1)), .int .i64 (bt s (p + 2)), .string T] 71)).drew w.heap.size 4 (.slice A j c) j ((bents s j).flatMap BlobD.cells) := (hown.alloc _).drew
                  have hbb : Below w.heap.size w (wr.alloc (.cells #[.int .i64 (bt s p), .int .i64 (bt s (p + 1)), .int .i64 (bt s (p + 2)), .string T] 71)).drew := (hb.alloc hsz _).drew
                  by_cases hB : blbE (bt s p) (bt s (p + 1)) (bt s (p + 2)) T = 0
                  · rw [hB] at C
                    have HN := Lib.hid (HS.out hok hB)
                    have G2 : Hid (∀ u ∈ (#[.int .i64 (bt s p), .int .i64 (bt s (p + 1)), .int .i64 (bt s (p + 2)), .string T] : Array Value).toList, u.oneCell' = true) := by simp [Hid, Value.oneCell']
                    have HO := Lib.hid hob
                    have HBB := Lib.hid hbb
                    generalize hU : (bents s j).flatMap BlobD.cells = U at *
                    clear hB hU HS hown hob hbb hb
                    go_wp2_with (first
                      | (go_at_call 93; refine (C.out _).mono ?_; rintro e w1 ⟨rfl, hbc⟩; obtain ⟨k0, k1, k2, k3, kz⟩ := kept4d hbc; have HO1 := Lib.hid (HO.out.fresh_below hbc); have HB1 := Lib.hid (HBB.out.trans (hbc.mono HBB.out.size)))
                      | (at_builtin; refine wpList_add1 rfl rfl Try.underlying83 info_blobR rfl (by omega) HO1.out rfl HB1.out.size rfl rfl rfl G2.out ?_ ?_ ?_; (unfold maxLen; omega); omega; intro A3 c3 w3 hown3 hl3 hbk3; have HO3 := Lib.hid hown3; have HL3 := Lib.hid (hl3.below (Nat.le_refl _) HB1.out)))
                    go_roundw
                    case rel => exact ⟨j + 1, p + 3 + K + N, by omega, hf, HN.out, by go_num, val_int (by omega), by rw [HX.out]; exact HO3.out, HL3.out⟩
                    case measure => (simp [intOf]; try omega)
                  · have hne : (blbE (bt s p) (bt s (p + 1)) (bt s (p + 2)) T != 0) = true := bne_iff_ne.2 hB
                    have F := Lib.hid (hnot.out fun k => hB k.2)
                    have HBB := Lib.hid hbb
                    clear HS HX hnot
                    generalize blbE (bt s p) (bt s (p + 1)) (bt s (p + 2)) T = ee at *
                    clear hB hown hob hbb hb
                    go_wp2_with (go_at_call 93; refine (C.out _).mono ?_; rintro e w1 ⟨rfl, hbc⟩; have HB1 := Lib.hid (HBB.out.trans (hbc.mono HBB.out.size)))
                    go_ret3
                    exact brPost_bad F.out HB1.out
                · have F := Lib.hid (hnot.out fun k => hno4 hf k.1)
                  have g : (s.size : Int) - p - 3 - K < (N : Int) := by omega
                  have hK : (K : Int) ≤ 10 := by omega
                  clear hok4 hno4 HS hEq HX
                  go_wp2_with (go_at_call 92; refine (H.out _).mono ?_; rintro e w' ⟨rfl, rfl⟩)
                  go_ret3
                  exact brPost_bad F.out hb
              · have hne : (eE s p != 0) = true := bne_iff_ne.2 hE
                have F := Lib.hid (hnot.out fun k => hE k.1.num)
                clear hE
                generalize getV (bt (tl s (p + 3))) (tl s (p + 3)).size = V at *
                generalize getN (bt (tl s (p + 3))) (tl s (p + 3)).size = NN at *
                generalize eE s p = E at *
                go_wp2_with (go_at_call 92; refine (H.out _).mono ?_; rintro e w' ⟨rfl, rfl⟩)
                go_ret3
                exact brPost_bad F.out hb
            · have F := Lib.hid (hnot.out fun k => by have := k.1.four; omega)
              have g : (s.size : Int) < (p : Int) + 3 := by omega
              go_wp2
              go_ret3
              exact brPost_bad F.out hb
          · obtain rfl : j = J := by omega
            by_cases he : p = s.size
            · have F := br_ok (hI.ok HJ.out he lo hi HL.out (by have := HJ.out; omega))
              have hT : (bt s 1).toNat = j := by have := HJ.out; omega
              rw [hT] at F
              have FF := Lib.hid F
              have HO := Lib.hid (hown.rows blob_four (by omega))
              obtain rfl := he
              have q0 : (0 : Int) < (s.size : Int) := by omega
              clear hT F hI
              generalize hb0 : bt s 0 = B0 at *
              by_cases h1 : B0 = 1
              · have g1 : (B0 == 1) = true := beq_iff_eq.2 h1
                rw [g1] at FF
                clear h1
                go_wp2
                go_quiet (fail)
                go_wp2
                go_ret3
                exact ⟨A, j, c, by rw [FF.out.1, FF.out.2.2]; rfl, by rw [FF.out.2.1]; exact HO.out.drewN _, below_drewN hb _⟩
              · have g1 : (B0 == 1) = false := beq_eq_false_iff_ne.2 h1
                rw [g1] at FF
                clear h1
                go_wp2
                go_quiet (fail)
                go_wp2
                go_ret3
                exact ⟨A, j, c, by rw [FF.out.1, FF.out.2.2]; rfl, by rw [FF.out.2.1]; exact HO.out.drewN _, below_drewN hb _⟩
            · have F := Lib.hid (hI.end_ HJ.out he)
              have g : ((p : Int) != (s.size : Int)) = true := by rw [bne_iff_ne]; omega
              clear he
              go_wp2
              go_ret3
              exact brPost_bad F.out hb
      · have F := Lib.hid (show ¬ BrOk s from fun k => hm k.many)
        go_enter Try.func53, Try.ntmps53
        go_wp2
        go_ret3
        exact brPost_bad F.out (Below.refl _ _)
    · have F := Lib.hid (show ¬ BrOk s from fun k => hl k.last)
      go_enter Try.func53, Try.ntmps53
      go_wp2
      go_ret3
      exact brPost_bad F.out (Below.refl _ _)
  · have F := Lib.hid (show ¬ BrOk s from fun k => h0 ⟨k.lo, k.hi⟩)
    rcases (show s.size < 2 ∨ (2 ≤ s.size ∧ 1000 < s.size) by omega) with h | ⟨h, h'⟩
    all_goals
      go_enter Try.func53, Try.ntmps53
      go_wp2
      go_ret3
      exact brPost_bad F.out (Below.refl _ _)
end Go.Proofs.Ytjmgocfoimhmjaa
