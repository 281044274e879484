/- linenref.Unblob, walked; its list lies in new memory. -/
import Derived.Test.YtjmgocfoimhmjaaBreadW
import Derived.Test.YtjmgocfoimhmjaaBlobsR
import Derived.Test.YtjmgocfoimhmjaaApp
import Derived.Deep.RegionLaw
namespace Go.Proofs.Ytjmgocfoimhmjaa
open Go.RowKit Go.PlainAid

def strLenF : Value → Nat
  | .string t => t.size
  | _ => 0
def BrfPost (s : ByteArray) (w : World) (e : Ending) (w' : World) : Prop := ∃ A n c, e = .returned (.tuple #[.slice A n c, .bool (brB s), .int .i64 (brE s)]) ∧ RowsIn w' w'.heap.size A n c BlobD.cells 4 (brL s) ∧ Below w.heap.size w w' ∧ (∀ a, A = some a → w.heap.size ≤ a.block)
theorem brfPost_bad {s : ByteArray} {w w' : World} (h : ¬ BrOk s) (hb : Below w.heap.size w w') : BrfPost s w (.returned (.tuple #[.slice none 0 0, .bool false, .int .i64 4])) w' := by
  obtain ⟨a, b, c⟩ := br_bad h
  exact ⟨none, 0, 0, by rw [a, c], by rw [b]; exact no_blobs _ _, hb, fun _ h => by cases h⟩
theorem owns_new {w : World} {base size n m c : Nat} {A : Option Addr} {xs : List Value} (h : Owns w base size (.slice A m c) n xs) : ∀ a, A = some a → base ≤ a.block := fun a e => (h.lt a.block (by rw [e]; rfl)).1

set_option maxRecDepth 200000 in
set_option maxHeartbeats 4000000 in
theorem breadf_any (s : ByteArray) (w : World) : Calls Try.prog 54 #[.string s] w (BrfPost s w) := by
  have hgb := get_bt s
  by_cases h0 : 2 ≤ s.size ∧ s.size ≤ 1000
  · obtain ⟨lo, hi⟩ := h0
    have HLO := Lib.hid lo
    have q0 : 0 < s.size := by omega
    go_enter Try.func54, Try.ntmps54
    go_wp2
    go_loopw [5, 6] (fun v5 v6 wr => ∃ j p : Nat, p ≤ s.size ∧ BrJ s j p ∧ v6 = .string (tl s p) ∧ Owns wr w.heap.size 4 v5 j ((bents s j).flatMap BlobD.cells) ∧ Below w.heap.size w wr) (fun _ v6 _ => strLenF v6)
    case atStart => exact ⟨0, 2, lo, BrJ.start s, rfl, Owns.nil _ _ _, Below.refl _ _⟩
    case round =>
      obtain ⟨j, p, hp, hI, rfl, hown, hb⟩ := hrel
      obtain ⟨A, c, rfl⟩ := hown.form
      have hsz := hb.size
      have hjp := hI.lt
      have hTz := tl_size s p
      have hTz1 : (tl s p).size ≤ s.size - p := by omega
      have hTz2 : s.size - p ≤ (tl s p).size := by omega
      have HT3 := Lib.hid (tl_tl s p 3)
      have HTT := Lib.hid (fun q => tl_tl s p q)
      have HB : Hid (∀ i, i < s.size - p → bt (tl s p) i = bt s (p + i)) := fun i hi => bt_extract s p s.size i (by omega) (Nat.le_refl _)
      have HC : Hid (∀ x y, x ≤ y → p + y ≤ s.size → (tl s p).extract x y = s.extract (p + x) (p + y)) := fun x y h1 h2 => by
        unfold tl; rw [ByteArray.extract_extract, show min (p + y) s.size = p + y by omega]
      by_cases hlt : p < s.size
      · have hnot := Lib.hid (hI.not hlt)
        have e1 := empty_ne (t := tl s p) (by omega)
        have e2 := empty_ne' (t := tl s p) (by omega)
        have hgt := get_bt (tl s p)
        have e3 : (tl s p).toList.isEmpty = false := by
          have h := e1
          cases hl : (tl s p).toList with
          | nil => rw [hl] at h; simp at h
          | cons a b => rfl
        generalize hT : tl s p = T at *
        have hTh := Lib.hid hT
        clear hT hTz
        by_cases h3 : T.size < 4
        · have F := Lib.hid (hnot.out fun k => by have := k.1.four; omega)
          go_wp2
          go_ret3
          exact brfPost_bad F.out hb
        · have H : Hid (∀ W, Calls Try.prog 94 #[.string (T.extract 3 T.size)] W fun e w' => e = .returned (.tuple #[.int .u64 (getV (bt (tl s (p + 3))) (tl s (p + 3)).size), .int .i64 (getN (bt (tl s (p + 3))) (tl s (p + 3)).size), .int .i64 (eE s p)]) ∧ W = w') := fun W => by
            rw [HT3.out]; exact getr_any _ W (by rw [tl_size]; omega)
          have hp3 : p + 4 ≤ s.size := by omega
          by_cases hE : eE s p = 0
          · obtain ⟨a1, a2, a3, a4, a5, _⟩ := ent_num hp3 hE
            rw [a1, a2, hE] at H
            have HE := Lib.hid hE
            clear a1 a2 hE
            have HX := Lib.hid hI.ents
            have HS := Lib.hid (fun a => hI.step (p := p) a)
            have hok4 : p + 3 + eK s p + eN s p ≤ s.size → EntOk s p := fun h => ⟨hp3, HE.out, h⟩
            have hno4 : ¬ p + 3 + eK s p + eN s p ≤ s.size → ¬ EntOk s p := fun h k => h k.fits
            have hlg : EntOk s p → 600 < eN s p → ¬ (EntOk s p ∧ entE s p = 0) := fun a b => entE_large a b
            generalize eK s p = K at *
            generalize eN s p = N at *
            by_cases h6 : 600 < N
            · have F := Lib.hid (show ¬ BrOk s from hnot.out fun k => hlg k.1 h6 k)
              have g1 : (600 : Int) < (N : Int) := by omega
              clear hlg hok4 hno4 HS HX
              go_wp2_with (go_at_call 94; refine (H.out _).mono ?_; rintro e w' ⟨rfl, rfl⟩)
              go_ret3
              exact brfPost_bad F.out hb
            · have g1 : (N : Int) ≤ 600 := by omega
              have g2 : (K : Int) ≤ 10 := by omega
              by_cases hf : p + 3 + K + N ≤ s.size
              · have hok := hok4 hf
                have HN := Lib.hid (HS.out hok)
                have g3 : (3 : Int) + (K : Int) + (N : Int) ≤ (T.size : Int) := by omega
                have hcut0 := HC.out (3 + K) (3 + K + N) (by omega) (by omega)
                rw [show p + (3 + K) = p + 3 + K by omega, show p + (3 + K + N) = p + 3 + K + N by omega] at hcut0
                have hrest := HTT.out (3 + K + N)
                rw [show p + (3 + K + N) = p + 3 + K + N by omega] at hrest
                have HR := Lib.hid hrest
                generalize hTX : s.extract (p + 3 + K) (p + 3 + K + N) = TX at *
                have y1 := bt_nonneg s p; have y2 := bt_le s p; have y3 := bt_nonneg s (p + 1); have y4 := bt_le s (p + 1); have y5 := bt_nonneg s (p + 2); have y6 := bt_le s (p + 2)
                have HF : Hid ((IntKind.i64.wrap ((3 : Int) + (K : Int)) = (3 : Int) + (K : Int) ∧ IntKind.i64.wrap ((3 : Int) + (K : Int) + (N : Int)) = (3 : Int) + (K : Int) + (N : Int)) ∧ (IntKind.i64.wrap (bt s p) = bt s p ∧ IntKind.i64.wrap (bt s (p + 1)) = bt s (p + 1) ∧ IntKind.i64.wrap (bt s (p + 2)) = bt s (p + 2) ∧ IntKind.i64.wrap (N : Int) = (N : Int))) := by
                  simp only [Hid, IntKind.wrap_i64]; omega
                clear y1 y2 y3 y4 y5 y6
                have hcut : Hid (∀ W : World, (Instr.sliceAt 9 (.string T) (some (.int .i64 ((3 : Int) + (K : Int)))) (some (.int .i64 ((3 : Int) + (K : Int) + (N : Int)))) none).run Try.prog W = .ok (.string TX) W) := by
                  have := run_cut (P := Try.prog) Try.underlying9 T (3 + K) (3 + K + N) (by omega) (by omega)
                  rw [hcut0] at this
                  simp only [Int.natCast_add, Int.cast_ofNat_Int] at this
                  exact this
                have hix : Hid ((∀ W : World, (Instr.index 9 (.string T) (.int .i64 0)).run Try.prog W = .ok (.int .u8 (bt s p)) W) ∧ (∀ W : World, (Instr.index 9 (.string T) (.int .i64 1)).run Try.prog W = .ok (.int .u8 (bt s (p + 1))) W) ∧ (∀ W : World, (Instr.index 9 (.string T) (.int .i64 2)).run Try.prog W = .ok (.int .u8 (bt s (p + 2))) W)) :=
                  ⟨run_idx Try.underlying9 T _ 0 _ rfl (by omega) ((hgt 0 (by omega)).trans (HB.out 0 (by omega))), run_idx Try.underlying9 T _ 1 _ rfl (by omega) ((hgt 1 (by omega)).trans (HB.out 1 (by omega))), run_idx Try.underlying9 T _ 2 _ rfl (by omega) ((hgt 2 (by omega)).trans (HB.out 2 (by omega)))⟩
                have G2 : Hid (∀ u ∈ (#[.int .i64 (bt s p), .int .i64 (bt s (p + 1)), .int .i64 (bt s (p + 2)), .string TX] : Array Value).toList, u.oneCell' = true) := by simp [Hid, Value.oneCell']
                have G3 : Hid (j + 1 ≤ maxLen ∧ (j + 1) * 40 ≤ 140737488355328) := by unfold maxLen Hid; omega
                have G4 : Hid (0 < 4) := by simp [Hid]
                have GO : Hid (Owns (wr.alloc (.cells #[.int .i64 (bt s p), .int .i64 (bt s (p + 1)), .int .i64 (bt s (p + 2)), .string TX] 71)).drew w.heap.size 4 (.slice A j c) j ((bents s j).flatMap BlobD.cells)) := (hown.alloc _).drew
                have GB : Hid (w.heap.size ≤ (wr.alloc (.cells #[.int .i64 (bt s p), .int .i64 (bt s (p + 1)), .int .i64 (bt s (p + 2)), .string TX] 71)).drew.heap.size) := by simp [Hid]; omega
                have GH : Hid ((wr.alloc (.cells #[.int .i64 (bt s p), .int .i64 (bt s (p + 1)), .int .i64 (bt s (p + 2)), .string TX] 71)).drew.heap[wr.heap.size]? = some (.cells #[.int .i64 (bt s p), .int .i64 (bt s (p + 1)), .int .i64 (bt s (p + 2)), .string TX] 71)) := heap_alloc_new wr _
                have GZ : Hid (Below w.heap.size w (wr.alloc (.cells #[.int .i64 (bt s p), .int .i64 (bt s (p + 1)), .int .i64 (bt s (p + 2)), .string TX] 71)).drew) := (hb.alloc hsz _).drew
                generalize hU : (bents s j).flatMap BlobD.cells = U at *
                clear hU hcut0 hrest hTX hlg hok4 hno4 HS hown hb hgt HB HC HTT HT3
                go_wp2_with (go_at_call 94; refine (H.out _).mono ?_; rintro e w' ⟨rfl, rfl⟩)
                have hcut := hcut.out
                obtain ⟨⟨f1, f2⟩, ⟨f3, f4, f5, f6⟩⟩ := HF.out
                obtain ⟨x1, x2, x3⟩ := hix.out
                go_region_law (first
                  | (refine step_app1 (P := Try.prog) (e := 71) (z := .agg #[.int .i64 0, .int .i64 0, .int .i64 0, .string ByteArray.empty]) (size := 4) (bytes := 40) (base := w.heap.size) rfl (.tmp 50) (.tmp 70) 83 rfl Try.underlying83 info_blobR rfl G4.out A j c U rfl GO.out GB.out wr.heap.size 1 #[.int .i64 (bt s p), .int .i64 (bt s (p + 1)), .int .i64 (bt s (p + 2)), .string TX] 71 rfl GH.out rfl G2.out G3.out.1 G3.out.2 ?_; intro A' c' w2 hown2 hl2 hn2))
                all_goals
                  have HO2 := Lib.hid hown2
                  have HB2 := Lib.hid (hl2.below (Nat.le_refl _) GZ.out)
                  clear f1 f2 f3 f4 f5 f6 x1 x2 x3 hcut hown2 hl2 hn2
                  go_wp2
                  go_roundw
                  case rel => exact ⟨j + 1, p + 3 + K + N, hf, HN.out, congrArg Value.string HR.out, by rw [HX.out]; exact HO2.out, HB2.out⟩
                  case measure => (simp [strLenF]; try omega)
              · have F := Lib.hid (show ¬ BrOk s from hnot.out fun k => hno4 hf k.1)
                have g3 : (T.size : Int) < (3 : Int) + (K : Int) + (N : Int) := by omega
                clear hlg hok4 hno4 HS HX
                go_wp2_with (go_at_call 94; refine (H.out _).mono ?_; rintro e w' ⟨rfl, rfl⟩)
                go_ret3
                exact brfPost_bad F.out hb
          · have hne : (eE s p != 0) = true := bne_iff_ne.2 hE
            have F := Lib.hid (hnot.out fun k => hE k.1.num)
            clear hE
            generalize getV (bt (tl s (p + 3))) (tl s (p + 3)).size = V at *
            generalize getN (bt (tl s (p + 3))) (tl s (p + 3)).size = NN at *
            generalize eE s p = E at *
            go_wp2_with (go_at_call 94; refine (H.out _).mono ?_; rintro e w' ⟨rfl, rfl⟩)
            go_ret3
            exact brfPost_bad F.out hb
      · obtain rfl : p = s.size := by omega
        have hTe : tl s s.size = ⟨#[]⟩ := empty_of_size (by omega)
        rw [hTe]
        clear hTe HB HC HTT HT3 hTz hTz1 hTz2
        have i0 : (0 : Int) < (s.size : Int) := by omega
        have hrow := hown.rows blob_four (by omega)
        have FR := Lib.hid (owns_new hown)
        have hiff := Lib.hid (hI.iff HLO.out hi rfl)
        have hmany := Lib.hid (hI.many rfl)
        by_cases h1 : bt s 0 = 1
        · have g1 : (bt s 0 == 1) = true := beq_iff_eq.2 h1
          have H := Lib.hid (bwrr_true A j c _ wr hrow)
          have hif := Lib.hid (hiff.out 1 (by rw [if_pos h1]))
          clear hiff h1
          by_cases hE : blsE (bents s j) = 0
          · rw [hE] at H
            by_cases hS : strOfNums (blsS (bents s j) 1) = s
            · have F := br_ok (hif.out.2 ⟨hE, hS⟩)
              rw [hmany.out (hif.out.2 ⟨hE, hS⟩), g1] at F
              have FF := Lib.hid F
              have HO := Lib.hid hrow
              rw [hS] at H
              clear hE hS F hif hmany
              go_wp2_with (go_at_call 95; refine H.out.mono ?_; rintro e w' ⟨rfl, hbc⟩; have HB1 := Lib.hid (hb.trans (hbc.mono hsz)); have HO1 := Lib.hid ((HO.out.below hbc).more hbc.size))
              go_quiet (fail)
              go_wp2
              go_ret3
              exact ⟨A, j, c, by rw [FF.out.1, FF.out.2.2]; rfl, by rw [FF.out.2.1]; exact HO1.out.drewN _, below_drewN HB1.out _, FR.out⟩
            · have F := Lib.hid (show ¬ BrOk s from fun k => hS (hif.out.1 k).2)
              have hne := str_ne hS
              generalize strOfNums (blsS (bents s j) 1) = tt at *
              clear hE hS hif hmany
              go_wp2_with (go_at_call 95; refine H.out.mono ?_; rintro e w' ⟨rfl, hbc⟩; have HB1 := Lib.hid (hb.trans (hbc.mono hsz)))
              go_ret3
              exact brfPost_bad F.out HB1.out
          · have F := Lib.hid (show ¬ BrOk s from fun k => hE (hif.out.1 k).1)
            have hne : (blsE (bents s j) != 0) = true := bne_iff_ne.2 hE
            generalize strOfNums (blsS (bents s j) 1) = tt at *
            generalize blsE (bents s j) = ee at *
            clear hE hif hmany
            go_wp2_with (go_at_call 95; refine H.out.mono ?_; rintro e w' ⟨rfl, hbc⟩; have HB1 := Lib.hid (hb.trans (hbc.mono hsz)))
            go_ret3
            exact brfPost_bad F.out HB1.out
        · have g1 : (bt s 0 == 1) = false := beq_eq_false_iff_ne.2 h1
          have H := Lib.hid (bwrr_false A j c _ wr hrow)
          have hif := Lib.hid (hiff.out 0 (by rw [if_neg h1]))
          clear hiff h1
          by_cases hE : blsE (bents s j) = 0
          · rw [hE] at H
            by_cases hS : strOfNums (blsS (bents s j) 0) = s
            · have F := br_ok (hif.out.2 ⟨hE, hS⟩)
              rw [hmany.out (hif.out.2 ⟨hE, hS⟩), g1] at F
              have FF := Lib.hid F
              have HO := Lib.hid hrow
              rw [hS] at H
              clear hE hS F hif hmany
              go_wp2_with (go_at_call 95; refine H.out.mono ?_; rintro e w' ⟨rfl, hbc⟩; have HB1 := Lib.hid (hb.trans (hbc.mono hsz)); have HO1 := Lib.hid ((HO.out.below hbc).more hbc.size))
              go_quiet (fail)
              go_wp2
              go_ret3
              exact ⟨A, j, c, by rw [FF.out.1, FF.out.2.2]; rfl, by rw [FF.out.2.1]; exact HO1.out.drewN _, below_drewN HB1.out _, FR.out⟩
            · have F := Lib.hid (show ¬ BrOk s from fun k => hS (hif.out.1 k).2)
              have hne := str_ne hS
              generalize strOfNums (blsS (bents s j) 0) = tt at *
              clear hE hS hif hmany
              go_wp2_with (go_at_call 95; refine H.out.mono ?_; rintro e w' ⟨rfl, hbc⟩; have HB1 := Lib.hid (hb.trans (hbc.mono hsz)))
              go_ret3
              exact brfPost_bad F.out HB1.out
          · have F := Lib.hid (show ¬ BrOk s from fun k => hE (hif.out.1 k).1)
            have hne : (blsE (bents s j) != 0) = true := bne_iff_ne.2 hE
            generalize strOfNums (blsS (bents s j) 0) = tt at *
            generalize blsE (bents s j) = ee at *
            clear hE hif hmany
            go_wp2_with (go_at_call 95; refine H.out.mono ?_; rintro e w' ⟨rfl, hbc⟩; have HB1 := Lib.hid (hb.trans (hbc.mono hsz)))
            go_ret3
            exact brfPost_bad F.out HB1.out
  · have F := Lib.hid (show ¬ BrOk s from fun k => h0 ⟨k.lo, k.hi⟩)
    rcases (show s.size < 2 ∨ (2 ≤ s.size ∧ 1000 < s.size) by omega) with h | ⟨h, h'⟩
    all_goals
      go_enter Try.func54, Try.ntmps54
      go_wp2
      go_ret3
      exact brfPost_bad F.out (Below.refl _ _)
end Go.Proofs.Ytjmgocfoimhmjaa
