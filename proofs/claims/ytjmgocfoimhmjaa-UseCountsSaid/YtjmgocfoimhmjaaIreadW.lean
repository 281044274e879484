/- inode.Read and linenref.ReadInode, walked. -/
import Derived.Test.YtjmgocfoimhmjaaUcJc
import Derived.Test.YtjmgocfoimhmjaaBlk
namespace Go.Proofs.Ytjmgocfoimhmjaa
open Go.RowKit Go.PlainAid

theorem info_inode : (Try.prog.info? 116).map (·.size) = some 4 := by kernel_rfl
theorem info_placeI : (Try.prog.info? 27).map (fun i => (i.zero, i.size, i.bytes)) = some (some (.agg #[.int .i64 0, .int .i64 0]), 2, 16) := by kernel_rfl
theorem place_two : ∀ x : PlaceD, x.cells.length = 2 := fun _ => rfl
abbrev zeroIno : Array Value := #[.int .i64 0, .int .i64 0, .int .i64 0, .slice none 0 0]
theorem rows_none (w : World) (B : Nat) : RowsIn w B none 0 0 PlaceD.cells 2 [] := ⟨rfl, Nat.le_refl _, Nat.zero_le _, fun i x h => by simp at h⟩

set_option maxRecDepth 20000 in
set_option maxHeartbeats 1000000 in
theorem iread_short (s : ByteArray) (w : World) (h7 : s.size < 7) :
    Calls Try.prog 100 #[.string s] w fun e w' => ∃ A n c, e = .returned (.tuple #[.agg #[.int .i64 (irK s), .int .i64 (irG s), .int .i64 (irS s), .slice A n c], .int .i64 (irE s)]) ∧ RowsIn w' w'.heap.size A n c PlaceD.cells 2 (irP s) ∧ Below w.heap.size w w' ∧ (∀ a, A = some a → w.heap.size ≤ a.block) := by
  have F := Lib.hid (ir_bad (s := s) (fun h => by have := h.1; omega))
  go_enter Try.func100, Try.ntmps100
  go_wp2
  refine bodyPost_ret (results_cell_tmp_row rfl _ _ w.heap.size _ zeroIno (0, 0) _ rfl (heap_alloc_new w _) Try.underlying116 rfl info_inode) rfl ?_
  exact ⟨none, 0, 0, by rw [F.out.1, F.out.2.1, F.out.2.2.1, F.out.2.2.2.1]; rfl, by rw [F.out.2.2.2.2]; exact rows_none _ _, (Below.refl _ _).alloc (Nat.le_refl _) _, fun a h => by cases h⟩

set_option maxRecDepth 20000 in
set_option maxHeartbeats 1000000 in
theorem iread_even (s : ByteArray) (w : World) (h7 : ¬ s.size < 7) (h2 : s.size % 2 = 0) :
    Calls Try.prog 100 #[.string s] w fun e w' => ∃ A n c, e = .returned (.tuple #[.agg #[.int .i64 (irK s), .int .i64 (irG s), .int .i64 (irS s), .slice A n c], .int .i64 (irE s)]) ∧ RowsIn w' w'.heap.size A n c PlaceD.cells 2 (irP s) ∧ Below w.heap.size w w' ∧ (∀ a, A = some a → w.heap.size ≤ a.block) := by
  have F := Lib.hid (ir_bad (s := s) (fun h => by have := h.2.1; omega))
  have hev : ((s.size : Int) % 2 == 0) = true := by rw [beq_iff_eq]; omega
  go_enter Try.func100, Try.ntmps100
  go_wp2
  refine bodyPost_ret (results_cell_tmp_row rfl _ _ w.heap.size _ zeroIno (0, 0) _ rfl (heap_alloc_new w _) Try.underlying116 rfl info_inode) rfl ?_
  exact ⟨none, 0, 0, by rw [F.out.1, F.out.2.1, F.out.2.2.1, F.out.2.2.2.1]; rfl, by rw [F.out.2.2.2.2]; exact rows_none _ _, (Below.refl _ _).alloc (Nat.le_refl _) _, fun a h => by cases h⟩

set_option maxRecDepth 20000 in
set_option maxHeartbeats 2000000 in
theorem iread_long (s : ByteArray) (w : World) (hsz : s.size ≤ 1048575) (h7 : ¬ s.size < 7) (h2 : s.size % 2 = 1) :
    Calls Try.prog 100 #[.string s] w fun e w' => ∃ A n c, e = .returned (.tuple #[.agg #[.int .i64 (irK s), .int .i64 (irG s), .int .i64 (irS s), .slice A n c], .int .i64 (irE s)]) ∧ RowsIn w' w'.heap.size A n c PlaceD.cells 2 (irP s) ∧ Below w.heap.size w w' ∧ (∀ a, A = some a → w.heap.size ≤ a.block) := by
  have hod : ((s.size : Int) % 2 == 0) = false := by rw [beq_eq_false_iff_ne]; omega
  have hgb := get_bt s
  have hG := unfix_G s (by omega)
  have hS := unfix_S s (by omega)
  have wK : wrap64 (bt s 0) = iK s := by have := bt_nonneg s 0; have := bt_le s 0; unfold wrap64 iK; omega
  have wG : wrap64 (iG s) = iG s := by have := iG_bd s; unfold wrap64; omega
  have wS : wrap64 (iS s) = iS s := by have := iS_bd s; unfold wrap64; omega
  have C : Hid (∀ (t : ByteArray) (W : World), Calls Try.prog 70 #[.string t] W fun e w' => e = .returned (.tuple #[.int .u64 (unfixV t), .int .i64 (unfixE t)]) ∧ W = w') := fun t W => unfix_any t W
  have hKb : Hid (-9223372036854775808 ≤ iS s ∧ iS s ≤ 9223372036854775807) := by have := iS_bd s; exact ⟨by omega, by omega⟩
  have HN := Lib.hid (iN_eq s (by omega))
  obtain ⟨N, hN⟩ : ∃ N, N = iN s := ⟨_, rfl⟩
  have hN1 : 7 + 2 * N ≤ s.size := by have := HN.out; omega
  have hN2 : s.size < 9 + 2 * N := by have := HN.out; omega
  have HNe := Lib.hid hN
  clear hN
  go_enter Try.func100, Try.ntmps100
  go_wp2_with (go_at_call 70; refine (C.out _ _).mono ?_; rintro e w' ⟨rfl, rfl⟩)
  go_loopw [9] (fun v9 wr => ∃ k j : Nat, j ≤ 7 + 2 * k ∧ 7 + 2 * k ≤ j ∧ k ≤ N ∧ v9 = .int .i64 j ∧ Hid (wr.heap[w.heap.size]? = some (.cells zeroIno 116)) ∧ Below w.heap.size w wr ∧ ∃ (A : Option Addr) (c : Nat), Hid (wr.heap[w.heap.size + 1]? = some (.cells #[.int .i64 (iK s), .int .i64 (iG s), .int .i64 (iS s), .slice A k c] 116)) ∧ Hid (Owns wr (w.heap.size + 2) 2 (.slice A k c) k ((iP s k).flatMap PlaceD.cells))) (fun v9 _ => s.size - (intOf v9).toNat)
  case atStart =>
    refine ⟨0, 7, Nat.le_refl _, Nat.le_refl _, Nat.zero_le _, rfl, ?_, ?_, none, 0, ?_, ?_⟩
    · exact heap_alloc2_old _ _ _
    · exact ((Below.refl _ _).alloc (Nat.le_refl _) _).alloc (by simp) _
    · exact heap_alloc2_new _ _ _
    · exact Owns.nil _ _ _
  case round =>
    obtain ⟨k, j, hj, hj', hk, rfl, hrow0, hb, A, c, hrow1, hown⟩ := hrel
    have hrow1 := hrow1.out
    have hrow0 := hrow0.out
    have hown := hown.out
    have hlt1 := row_lt hrow1
    by_cases hlt : k < N
    · have hc3 : wr.cell? ⟨w.heap.size + 1, 3, none⟩ = some (.slice A k c) := row_cell hrow1 3
      have hjs : j < s.size := by omega
      have hjs1 : j + 1 < s.size := by omega
      have i1 : (j : Int) < (s.size : Int) := by omega
      have i2 : (j : Int) + 1 < (s.size : Int) := by omega
      have i3 : (0 : Int) ≤ (j : Int) + 1 := by omega
      have i4 : ((j : Int) + 1).toNat = j + 1 := by omega
      have i5 : IntKind.i64.wrap ((j : Int) + 1) = (j : Int) + 1 := by rw [IntKind.wrap_i64]; omega
      have i5' : wrap64 ((j : Int) + 1) = (j : Int) + 1 := by unfold wrap64; omega
      have u1 : wrap64 (bt s j) = bt s j := by have := bt_nonneg s j; have := bt_le s j; unfold wrap64; omega
      have u2 : wrap64 (bt s (j + 1)) = bt s (j + 1) := by have := bt_nonneg s (j + 1); have := bt_le s (j + 1); unfold wrap64; omega
      have HX : Hid ((iP s (k + 1)).flatMap PlaceD.cells = (iP s k).flatMap PlaceD.cells ++ [.int .i64 (bt s j), .int .i64 (bt s (j + 1))]) := by
        simp only [Hid]; rw [iP_succ, List.flatMap_append, show j = 7 + 2 * k by omega, show 7 + 2 * k + 1 = 8 + 2 * k by omega]; rfl
      have hne1 : Value.ownBlock (.slice A k c) ≠ some (w.heap.size + 1) := fun e => by have := (hown.lt _ e).1; omega
      have hne0 : Value.ownBlock (.slice A k c) ≠ some w.heap.size := fun e => by have := (hown.lt _ e).1; omega
      generalize hU : (iP s k).flatMap PlaceD.cells = U at *
      clear hU
      have v1 : IntKind.i64.wrap (bt s j) = bt s j := by have := bt_nonneg s j; have := bt_le s j; rw [IntKind.wrap_i64]; omega
      have v2 : IntKind.i64.wrap (bt s (j + 1)) = bt s (j + 1) := by have := bt_nonneg s (j + 1); have := bt_le s (j + 1); rw [IntKind.wrap_i64]; omega
      have G2 : Hid (∀ u ∈ (#[.int .i64 (bt s j), .int .i64 (bt s (j + 1))] : Array Value).toList, u.oneCell' = true) := by simp [Hid, Value.oneCell']
      have G3 : Hid (k + 1 ≤ maxLen ∧ (k + 1) * 16 ≤ 140737488355328) := by unfold maxLen Hid; omega
      have G4 : Hid (0 < 2) := by simp [Hid]
      have GO : Hid (Owns (wr.alloc (.cells #[.int .i64 (bt s j), .int .i64 (bt s (j + 1))] 27)).drew (w.heap.size + 2) 2 (.slice A k c) k U) := (hown.alloc _).drew
      have GB : Hid (w.heap.size + 2 ≤ (wr.alloc (.cells #[.int .i64 (bt s j), .int .i64 (bt s (j + 1))] 27)).drew.heap.size) := by simp [Hid]; omega
      have GH : Hid ((wr.alloc (.cells #[.int .i64 (bt s j), .int .i64 (bt s (j + 1))] 27)).drew.heap[wr.heap.size]? = some (.cells #[.int .i64 (bt s j), .int .i64 (bt s (j + 1))] 27)) := heap_alloc_new wr _
      have GR : Hid ((wr.alloc (.cells #[.int .i64 (bt s j), .int .i64 (bt s (j + 1))] 27)).drew.heap[w.heap.size + 1]? = some (.cells #[.int .i64 (iK s), .int .i64 (iG s), .int .i64 (iS s), .slice A k c] 116)) := row_alloc hrow1 _
      have GR0 : Hid ((wr.alloc (.cells #[.int .i64 (bt s j), .int .i64 (bt s (j + 1))] 27)).drew.heap[w.heap.size]? = some (.cells zeroIno 116)) := row_alloc hrow0 _
      have GZ : Hid (Below w.heap.size w (wr.alloc (.cells #[.int .i64 (bt s j), .int .i64 (bt s (j + 1))] 27)).drew) := (hb.alloc hb.size _).drew
      have HR1 := Lib.hid hrow1
      have HR0 := Lib.hid hrow0
      have HB := Lib.hid hb
      have N1 := Lib.hid hne1
      have N0 := Lib.hid hne0
      clear hrow1 hrow0 hne1 hne0 hown hb
      go_wp2
      go_region_law (first
        | (refine step_app1 (P := Try.prog) (e := 27) (z := .agg #[.int .i64 0, .int .i64 0]) (size := 2) (bytes := 16) (base := w.heap.size + 2) rfl (.tmp 47) (.tmp 58) 22 rfl Try.underlying22 info_placeI rfl G4.out A k c U rfl GO.out GB.out wr.heap.size 1 #[.int .i64 (bt s j), .int .i64 (bt s (j + 1))] 27 rfl GH.out rfl G2.out G3.out.1 G3.out.2 ?_; intro A' c' w2 hown2 hl2 hn2; have hq1 := row_left GR.out hl2 N1.out; have hq := row_cell hq1 3; have hf := row_cold hq1 3; simp only [List.getElem?_toArray, List.getElem?_cons_succ, List.getElem?_cons_zero] at hq))
      all_goals
        have hr1 := Lib.hid (row_store (j := 3) (v := .slice A' (k + 1) c') hq1)
        have hr0 := Lib.hid (row_other (a := ⟨w.heap.size + 1, 3, none⟩) (v := .slice A' (k + 1) c') (row_left GR0.out hl2 N0.out) (show w.heap.size ≠ w.heap.size + 1 by omega))
        have hz2 := hl2.size
        have hown3 := hown2.setOther (p := ⟨w.heap.size + 1, 3, none⟩) (fun e => by have e2 : w.heap.size + 2 ≤ w.heap.size + 1 := (hown2.lt _ e).1; omega) (.slice A' (k + 1) c')
        have hbel : Below w.heap.size w (w2.setCell ⟨w.heap.size + 1, 3, none⟩ (.slice A' (k + 1) c')) := (hl2.below (by omega) GZ.out).setCell (by simp) _
        clear hq hf hq1 hl2 hown2 GO GB GH GR GR0 GZ
        generalize w2.setCell ⟨w.heap.size + 1, 3, none⟩ (.slice A' (k + 1) c') = w3 at *
        go_wp2
        go_roundw
        case rel => exact ⟨k + 1, j + 2, by omega, by omega, by omega, by go_num, A', c', hr1, by simp only [Hid]; rw [HX.out]; exact hown3⟩
        case measure => simp [intOf]; omega
    · obtain rfl : k = N := by omega
      have hc0 : wr.cell? ⟨w.heap.size + 1, 0, none⟩ = some (.int .i64 (iK s)) := row_cell hrow1 0
      have hc1 : wr.cell? ⟨w.heap.size + 1, 1, none⟩ = some (.int .i64 (iG s)) := row_cell hrow1 1
      have hc2 : wr.cell? ⟨w.heap.size + 1, 2, none⟩ = some (.int .i64 (iS s)) := row_cell hrow1 2
      have hc3 : wr.cell? ⟨w.heap.size + 1, 3, none⟩ = some (.slice A k c) := row_cell hrow1 3
      have HNk : Hid (k = iN s) := HNe.out
      have hend : (s.size : Int) ≤ (j : Int) := by omega
      have hend2 : ¬ (j : Int) < (s.size : Int) := by omega
      have w1' : wrap64 ((j : Int) + 1) = (j : Int) + 1 := by unfold wrap64; omega
      have hend3 : (s.size : Int) ≤ (j : Int) + 1 := by omega
      have hdec : Below w.heap.size w wr := hb
      have hI : Hid (@info_inode = @info_inode) := rfl
      have H := Lib.hid (inoc_any (iK s) (iG s) (iS s) A k c (iP s k) wr hKb.out.1 hKb.out.2 (hown.rows place_two (by omega)))
      have hone : Hid ((#[.int .i64 (iK s), .int .i64 (iG s), .int .i64 (iS s), .slice A k c] : Array Value).all (·.oneCell') = true) := by simp [Hid, Value.oneCell']
      have hone0 : Hid ((zeroIno : Array Value).all (·.oneCell') = true) := by simp [Hid, Value.oneCell']
      have HO0 := Lib.hid hown
      have HR00 := Lib.hid hrow0
      have HB0 := Lib.hid hb
      clear hown hrow0 hrow1 hb hdec
      by_cases hE : inoE (iK s) (iG s) (iS s) (iP s k) = 0
      · have F := Lib.hid (ir_ok (s := s) ⟨by omega, h2, by rw [← HNk.out]; exact hE⟩)
        rw [hE] at H
        clear hE
        go_wp2_with (first
          | (go_at_call 109; refine H.out.mono ?_; rintro e w1 ⟨rfl, hbc⟩; have HB := Lib.hid (HB0.out.trans (hbc.mono HB0.out.size)); have HO := Lib.hid (HO0.out.fresh_below hbc); have HR0 := Lib.hid (row_below HR00.out (row_lt HR00.out) hbc); have k0 := (hbc.cell (p := ⟨w.heap.size + 1, 0, none⟩) hlt1).trans hc0; have k1 := (hbc.cell (p := ⟨w.heap.size + 1, 1, none⟩) hlt1).trans hc1; have k2 := (hbc.cell (p := ⟨w.heap.size + 1, 2, none⟩) hlt1).trans hc2; have k3 := (hbc.cell (p := ⟨w.heap.size + 1, 3, none⟩) hlt1).trans hc3)
          | (refine wpList_store_rowTo rfl _ _ _ rfl rfl w.heap.size #[.int .i64 (iK s), .int .i64 (iG s), .int .i64 (iS s), .slice A k c] rfl rfl 116 zeroIno HR0.out info_inode rfl hone.out ?_))
        refine bodyPost_ret (results_cell_tmp_row rfl _ _ w.heap.size _ #[.int .i64 (iK s), .int .i64 (iG s), .int .i64 (iS s), .slice A k c] (0, 0) _ rfl (row_set HR0.out) Try.underlying116 rfl info_inode) rfl ?_
        exact ⟨A, k, c, by rw [F.out.1, F.out.2.1, F.out.2.2.1, F.out.2.2.2.1]; rfl, by rw [F.out.2.2.2.2, ← HNk.out]; exact (HO.out.setRow (by omega) _).rows place_two (by omega), below_setRow HB.out (Nat.le_refl _) _, fun a h => by subst h; have := (HO.out.lt a.block rfl).1; omega⟩
      · have F := Lib.hid (ir_bad (s := s) (fun h => hE (by rw [HNk.out]; exact h.2.2)))
        have hne : (inoE (iK s) (iG s) (iS s) (iP s k) != 0) = true := bne_iff_ne.2 hE
        generalize inoE (iK s) (iG s) (iS s) (iP s k) = ee at *
        clear hE
        go_wp2_with (first
          | (go_at_call 109; refine H.out.mono ?_; rintro e w1 ⟨rfl, hbc⟩; have HB := Lib.hid (HB0.out.trans (hbc.mono HB0.out.size)); have HR0 := Lib.hid (row_below HR00.out (row_lt HR00.out) hbc))
          | (refine wpList_store_rowTo rfl _ _ _ rfl rfl w.heap.size zeroIno rfl rfl 116 zeroIno HR0.out info_inode rfl hone0.out ?_))
        refine bodyPost_ret (results_cell_tmp_row rfl _ _ w.heap.size _ zeroIno (0, 0) _ rfl (row_set HR0.out) Try.underlying116 rfl info_inode) rfl ?_
        exact ⟨none, 0, 0, by rw [F.out.1, F.out.2.1, F.out.2.2.1, F.out.2.2.2.1]; rfl, by rw [F.out.2.2.2.2]; exact rows_none _ _, below_setRow HB.out (Nat.le_refl _) _, fun a h => by cases h⟩

set_option maxRecDepth 20000 in
set_option maxHeartbeats 1000000 in
theorem ireadr_short (s : ByteArray) (w : World) (h7 : s.size < 7) :
    Calls Try.prog 110 #[.string s] w fun e w' => ∃ A n c, e = .returned (.tuple #[.agg #[.int .i64 (irK s), .int .i64 (irG s), .int .i64 (irS s), .slice A n c], .int .i64 (irE s)]) ∧ RowsIn w' w'.heap.size A n c PlaceD.cells 2 (irP s) ∧ Below w.heap.size w w' ∧ (∀ a, A = some a → w.heap.size ≤ a.block) := by
  have F := Lib.hid (ir_bad (s := s) (fun h => by have := h.1; omega))
  go_enter Try.func110, Try.ntmps110
  go_wp2
  refine bodyPost_ret (results_cell_tmp_row rfl _ _ w.heap.size _ zeroIno (0, 0) _ rfl (heap_alloc_new w _) Try.underlying116 rfl info_inode) rfl ?_
  exact ⟨none, 0, 0, by rw [F.out.1, F.out.2.1, F.out.2.2.1, F.out.2.2.2.1]; rfl, by rw [F.out.2.2.2.2]; exact rows_none _ _, (Below.refl _ _).alloc (Nat.le_refl _) _, fun a h => by cases h⟩

set_option maxRecDepth 20000 in
set_option maxHeartbeats 2000000 in
theorem ireadr_long (s : ByteArray) (w : World) (hsz : s.size ≤ 1048575) (h7 : ¬ s.size < 7) :
    Calls Try.prog 110 #[.string s] w fun e w' => ∃ A n c, e = .returned (.tuple #[.agg #[.int .i64 (irK s), .int .i64 (irG s), .int .i64 (irS s), .slice A n c], .int .i64 (irE s)]) ∧ RowsIn w' w'.heap.size A n c PlaceD.cells 2 (irP s) ∧ Below w.heap.size w w' ∧ (∀ a, A = some a → w.heap.size ≤ a.block) := by
  have hgb := get_bt s
  have hG := unfix_G s (by omega)
  have hS := unfix_S s (by omega)
  have wK : wrap64 (bt s 0) = iK s := by have := bt_nonneg s 0; have := bt_le s 0; unfold wrap64 iK; omega
  have wG : wrap64 (iG s) = iG s := by have := iG_bd s; unfold wrap64; omega
  have wS : wrap64 (iS s) = iS s := by have := iS_bd s; unfold wrap64; omega
  have C : Hid (∀ (t : ByteArray) (W : World), Calls Try.prog 73 #[.string t] W fun e w' => e = .returned (.tuple #[.int .u64 (unfixV t), .int .i64 (unfixE t)]) ∧ W = w') := fun t W => unfixr_any t W
  have hKb : Hid (-9223372036854775808 ≤ iS s ∧ iS s ≤ 9223372036854775807) := by have := iS_bd s; exact ⟨by omega, by omega⟩
  have HN := Lib.hid (iN_eq s (by omega))
  obtain ⟨N, hN⟩ : ∃ N, N = iN s := ⟨_, rfl⟩
  have hN1 : 7 + 2 * N ≤ s.size := by have := HN.out; omega
  have hN2 : s.size < 9 + 2 * N := by have := HN.out; omega
  have HNe := Lib.hid hN
  clear hN
  go_enter Try.func110, Try.ntmps110
  go_wp2_with (go_at_call 73; refine (C.out _ _).mono ?_; rintro e w' ⟨rfl, rfl⟩)
  go_loopw [9] (fun v9 wr => ∃ k j : Nat, j ≤ 7 + 2 * k ∧ 7 + 2 * k ≤ j ∧ k ≤ N ∧ v9 = .int .i64 j ∧ Hid (wr.heap[w.heap.size]? = some (.cells zeroIno 116)) ∧ Below w.heap.size w wr ∧ ∃ (A : Option Addr) (c : Nat), Hid (wr.heap[w.heap.size + 1]? = some (.cells #[.int .i64 (iK s), .int .i64 (iG s), .int .i64 (iS s), .slice A k c] 116)) ∧ Hid (Owns wr (w.heap.size + 2) 2 (.slice A k c) k ((iP s k).flatMap PlaceD.cells))) (fun v9 _ => s.size - (intOf v9).toNat)
  case atStart =>
    refine ⟨0, 7, Nat.le_refl _, Nat.le_refl _, Nat.zero_le _, rfl, ?_, ?_, none, 0, ?_, ?_⟩
    · exact heap_alloc2_old _ _ _
    · exact ((Below.refl _ _).alloc (Nat.le_refl _) _).alloc (by simp) _
    · exact heap_alloc2_new _ _ _
    · exact Owns.nil _ _ _
  case round =>
    obtain ⟨k, j, hj, hj', hk, rfl, hrow0, hb, A, c, hrow1, hown⟩ := hrel
    have hrow1 := hrow1.out
    have hrow0 := hrow0.out
    have hown := hown.out
    have hlt1 := row_lt hrow1
    by_cases hlt : k < N
    · have hc3 : wr.cell? ⟨w.heap.size + 1, 3, none⟩ = some (.slice A k c) := row_cell hrow1 3
      have hjs : j < s.size := by omega
      have hjs1 : j + 1 < s.size := by omega
      have i1 : (j : Int) < (s.size : Int) := by omega
      have i2 : (j : Int) + 1 < (s.size : Int) := by omega
      have i3 : (0 : Int) ≤ (j : Int) + 1 := by omega
      have i4 : ((j : Int) + 1).toNat = j + 1 := by omega
      have i5 : IntKind.i64.wrap ((j : Int) + 1) = (j : Int) + 1 := by rw [IntKind.wrap_i64]; omega
      have i5' : wrap64 ((j : Int) + 1) = (j : Int) + 1 := by unfold wrap64; omega
      have u1 : wrap64 (bt s j) = bt s j := by have := bt_nonneg s j; have := bt_le s j; unfold wrap64; omega
      have u2 : wrap64 (bt s (j + 1)) = bt s (j + 1) := by have := bt_nonneg s (j + 1); have := bt_le s (j + 1); unfold wrap64; omega
      have HX : Hid ((iP s (k + 1)).flatMap PlaceD.cells = (iP s k).flatMap PlaceD.cells ++ [.int .i64 (bt s j), .int .i64 (bt s (j + 1))]) := by
        simp only [Hid]; rw [iP_succ, List.flatMap_append, show j = 7 + 2 * k by omega, show 7 + 2 * k + 1 = 8 + 2 * k by omega]; rfl
      have hne1 : Value.ownBlock (.slice A k c) ≠ some (w.heap.size + 1) := fun e => by have := (hown.lt _ e).1; omega
      have hne0 : Value.ownBlock (.slice A k c) ≠ some w.heap.size := fun e => by have := (hown.lt _ e).1; omega
      generalize hU : (iP s k).flatMap PlaceD.cells = U at *
      clear hU
      have v1 : IntKind.i64.wrap (bt s j) = bt s j := by have := bt_nonneg s j; have := bt_le s j; rw [IntKind.wrap_i64]; omega
      have v2 : IntKind.i64.wrap (bt s (j + 1)) = bt s (j + 1) := by have := bt_nonneg s (j + 1); have := bt_le s (j + 1); rw [IntKind.wrap_i64]; omega
      have G2 : Hid (∀ u ∈ (#[.int .i64 (bt s j), .int .i64 (bt s (j + 1))] : Array Value).toList, u.oneCell' = true) := by simp [Hid, Value.oneCell']
      have G3 : Hid (k + 1 ≤ maxLen ∧ (k + 1) * 16 ≤ 140737488355328) := by unfold maxLen Hid; omega
      have G4 : Hid (0 < 2) := by simp [Hid]
      have GO : Hid (Owns (wr.alloc (.cells #[.int .i64 (bt s j), .int .i64 (bt s (j + 1))] 27)).drew (w.heap.size + 2) 2 (.slice A k c) k U) := (hown.alloc _).drew
      have GB : Hid (w.heap.size + 2 ≤ (wr.alloc (.cells #[.int .i64 (bt s j), .int .i64 (bt s (j + 1))] 27)).drew.heap.size) := by simp [Hid]; omega
      have GH : Hid ((wr.alloc (.cells #[.int .i64 (bt s j), .int .i64 (bt s (j + 1))] 27)).drew.heap[wr.heap.size]? = some (.cells #[.int .i64 (bt s j), .int .i64 (bt s (j + 1))] 27)) := heap_alloc_new wr _
      have GR : Hid ((wr.alloc (.cells #[.int .i64 (bt s j), .int .i64 (bt s (j + 1))] 27)).drew.heap[w.heap.size + 1]? = some (.cells #[.int .i64 (iK s), .int .i64 (iG s), .int .i64 (iS s), .slice A k c] 116)) := row_alloc hrow1 _
      have GR0 : Hid ((wr.alloc (.cells #[.int .i64 (bt s j), .int .i64 (bt s (j + 1))] 27)).drew.heap[w.heap.size]? = some (.cells zeroIno 116)) := row_alloc hrow0 _
      have GZ : Hid (Below w.heap.size w (wr.alloc (.cells #[.int .i64 (bt s j), .int .i64 (bt s (j + 1))] 27)).drew) := (hb.alloc hb.size _).drew
      have HR1 := Lib.hid hrow1
      have HR0 := Lib.hid hrow0
      have HB := Lib.hid hb
      have N1 := Lib.hid hne1
      have N0 := Lib.hid hne0
      clear hrow1 hrow0 hne1 hne0 hown hb
      go_wp2
      go_region_law (first
        | (refine step_app1 (P := Try.prog) (e := 27) (z := .agg #[.int .i64 0, .int .i64 0]) (size := 2) (bytes := 16) (base := w.heap.size + 2) rfl (.tmp 44) (.tmp 55) 22 rfl Try.underlying22 info_placeI rfl G4.out A k c U rfl GO.out GB.out wr.heap.size 1 #[.int .i64 (bt s j), .int .i64 (bt s (j + 1))] 27 rfl GH.out rfl G2.out G3.out.1 G3.out.2 ?_; intro A' c' w2 hown2 hl2 hn2; have hq1 := row_left GR.out hl2 N1.out; have hq := row_cell hq1 3; have hf := row_cold hq1 3; simp only [List.getElem?_toArray, List.getElem?_cons_succ, List.getElem?_cons_zero] at hq))
      all_goals
        have hr1 := Lib.hid (row_store (j := 3) (v := .slice A' (k + 1) c') hq1)
        have hr0 := Lib.hid (row_other (a := ⟨w.heap.size + 1, 3, none⟩) (v := .slice A' (k + 1) c') (row_left GR0.out hl2 N0.out) (show w.heap.size ≠ w.heap.size + 1 by omega))
        have hz2 := hl2.size
        have hown3 := hown2.setOther (p := ⟨w.heap.size + 1, 3, none⟩) (fun e => by have e2 : w.heap.size + 2 ≤ w.heap.size + 1 := (hown2.lt _ e).1; omega) (.slice A' (k + 1) c')
        have hbel : Below w.heap.size w (w2.setCell ⟨w.heap.size + 1, 3, none⟩ (.slice A' (k + 1) c')) := (hl2.below (by omega) GZ.out).setCell (by simp) _
        clear hq hf hq1 hl2 hown2 GO GB GH GR GR0 GZ
        generalize w2.setCell ⟨w.heap.size + 1, 3, none⟩ (.slice A' (k + 1) c') = w3 at *
        go_wp2
        go_roundw
        case rel => exact ⟨k + 1, j + 2, by omega, by omega, by omega, by go_num, A', c', hr1, by simp only [Hid]; rw [HX.out]; exact hown3⟩
        case measure => simp [intOf]; omega
    · obtain rfl : k = N := by omega
      have hc0 : wr.cell? ⟨w.heap.size + 1, 0, none⟩ = some (.int .i64 (iK s)) := row_cell hrow1 0
      have hc1 : wr.cell? ⟨w.heap.size + 1, 1, none⟩ = some (.int .i64 (iG s)) := row_cell hrow1 1
      have hc2 : wr.cell? ⟨w.heap.size + 1, 2, none⟩ = some (.int .i64 (iS s)) := row_cell hrow1 2
      have hc3 : wr.cell? ⟨w.heap.size + 1, 3, none⟩ = some (.slice A k c) := row_cell hrow1 3
      have HNk : Hid (k = iN s) := HNe.out
      have w1' : wrap64 ((j : Int) + 1) = (j : Int) + 1 := by unfold wrap64; omega
      have hend3 : (s.size : Int) ≤ (j : Int) + 1 := by omega
      have hdec : Below w.heap.size w wr := hb
      have hI : Hid (@info_inode = @info_inode) := rfl
      have H := Lib.hid (inot_any (iK s) (iG s) (iS s) A k c (iP s k) wr hKb.out.1 hKb.out.2 (hown.rows place_two (by omega)))
      have hone : Hid ((#[.int .i64 (iK s), .int .i64 (iG s), .int .i64 (iS s), .slice A k c] : Array Value).all (·.oneCell') = true) := by simp [Hid, Value.oneCell']
      have hone0 : Hid ((zeroIno : Array Value).all (·.oneCell') = true) := by simp [Hid, Value.oneCell']
      have HO0 := Lib.hid hown
      have HR00 := Lib.hid hrow0
      have HB0 := Lib.hid hb
      have hback := inoL_back s k
      clear hown hrow0 hrow1 hb hdec
      by_cases hE : inoE (iK s) (iG s) (iS s) (iP s k) = 0
      · have hS : inoS (iK s) (iG s) (iS s) (iP s k) = btL s (7 + 2 * k) := by unfold inoS; rw [if_pos hE, hback]
        rw [hE, hS] at H
        by_cases h2 : s.size % 2 = 1
        · have F := Lib.hid (ir_ok (s := s) ⟨by omega, h2, by rw [← HNk.out]; exact hE⟩)
          have hall : strOfNums (btL s (7 + 2 * k)) = s := by rw [show 7 + 2 * k = s.size by omega]; exact strOf_btL s
          rw [hall] at H
          clear hE hS hall hback
          go_wp2_with (first
          | (go_at_call 114; refine H.out.mono ?_; rintro e w1 ⟨rfl, hbc⟩; have HB := Lib.hid (HB0.out.trans (hbc.mono HB0.out.size)); have HO := Lib.hid (HO0.out.fresh_below hbc); have HR0 := Lib.hid (row_below HR00.out (row_lt HR00.out) hbc); have k0 := (hbc.cell (p := ⟨w.heap.size + 1, 0, none⟩) hlt1).trans hc0; have k1 := (hbc.cell (p := ⟨w.heap.size + 1, 1, none⟩) hlt1).trans hc1; have k2 := (hbc.cell (p := ⟨w.heap.size + 1, 2, none⟩) hlt1).trans hc2; have k3 := (hbc.cell (p := ⟨w.heap.size + 1, 3, none⟩) hlt1).trans hc3)
          | (refine wpList_store_rowTo rfl _ _ _ rfl rfl w.heap.size #[.int .i64 (iK s), .int .i64 (iG s), .int .i64 (iS s), .slice A k c] rfl rfl 116 zeroIno HR0.out info_inode rfl hone.out ?_))
          refine bodyPost_ret (results_cell_tmp_row rfl _ _ w.heap.size _ #[.int .i64 (iK s), .int .i64 (iG s), .int .i64 (iS s), .slice A k c] (0, 0) _ rfl (row_set HR0.out) Try.underlying116 rfl info_inode) rfl ?_
          exact ⟨A, k, c, by rw [F.out.1, F.out.2.1, F.out.2.2.1, F.out.2.2.2.1]; rfl, by rw [F.out.2.2.2.2, ← HNk.out]; exact (HO.out.setRow (by omega) _).rows place_two (by omega), below_setRow HB.out (Nat.le_refl _) _, fun a h => by subst h; have := (HO.out.lt a.block rfl).1; omega⟩
        · have F := Lib.hid (ir_bad (s := s) (fun h => h2 h.2.1))
          have hne : ((strOfNums (btL s (7 + 2 * k))).toList == s.toList) = false := str_ne (fun e => by have := congrArg ByteArray.size e; rw [strOfNums_size, btL_length] at this; omega)
          generalize strOfNums (btL s (7 + 2 * k)) = tt at *
          clear hE hS hback
          go_wp2_with (first
          | (go_at_call 114; refine H.out.mono ?_; rintro e w1 ⟨rfl, hbc⟩; have HB := Lib.hid (HB0.out.trans (hbc.mono HB0.out.size)); have HR0 := Lib.hid (row_below HR00.out (row_lt HR00.out) hbc))
          | (refine wpList_store_rowTo rfl _ _ _ rfl rfl w.heap.size zeroIno rfl rfl 116 zeroIno HR0.out info_inode rfl hone0.out ?_))
          refine bodyPost_ret (results_cell_tmp_row rfl _ _ w.heap.size _ zeroIno (0, 0) _ rfl (row_set HR0.out) Try.underlying116 rfl info_inode) rfl ?_
          exact ⟨none, 0, 0, by rw [F.out.1, F.out.2.1, F.out.2.2.1, F.out.2.2.2.1]; rfl, by rw [F.out.2.2.2.2]; exact rows_none _ _, below_setRow HB.out (Nat.le_refl _) _, fun a h => by cases h⟩
      · have F := Lib.hid (ir_bad (s := s) (fun h => hE (by rw [HNk.out]; exact h.2.2)))
        have hne : (inoE (iK s) (iG s) (iS s) (iP s k) != 0) = true := bne_iff_ne.2 hE
        generalize inoE (iK s) (iG s) (iS s) (iP s k) = ee at *
        generalize strOfNums (inoS (iK s) (iG s) (iS s) (iP s k)) = tt at *
        clear hE hback
        go_wp2_with (first
          | (go_at_call 114; refine H.out.mono ?_; rintro e w1 ⟨rfl, hbc⟩; have HB := Lib.hid (HB0.out.trans (hbc.mono HB0.out.size)); have HR0 := Lib.hid (row_below HR00.out (row_lt HR00.out) hbc))
          | (refine wpList_store_rowTo rfl _ _ _ rfl rfl w.heap.size zeroIno rfl rfl 116 zeroIno HR0.out info_inode rfl hone0.out ?_))
        refine bodyPost_ret (results_cell_tmp_row rfl _ _ w.heap.size _ zeroIno (0, 0) _ rfl (row_set HR0.out) Try.underlying116 rfl info_inode) rfl ?_
        exact ⟨none, 0, 0, by rw [F.out.1, F.out.2.1, F.out.2.2.1, F.out.2.2.2.1]; rfl, by rw [F.out.2.2.2.2]; exact rows_none _ _, below_setRow HB.out (Nat.le_refl _) _, fun a h => by cases h⟩

theorem iread_fresh (s : ByteArray) (w : World) (hs : s.size ≤ 1048575) :
    Calls Try.prog 100 #[.string s] w fun e w' => ∃ A n c, e = .returned (.tuple #[.agg #[.int .i64 (irK s), .int .i64 (irG s), .int .i64 (irS s), .slice A n c], .int .i64 (irE s)]) ∧ RowsIn w' w'.heap.size A n c PlaceD.cells 2 (irP s) ∧ Below w.heap.size w w' ∧ (∀ a, A = some a → w.heap.size ≤ a.block) := by
  by_cases h7 : s.size < 7
  · exact iread_short s w h7
  · rcases Nat.mod_two_eq_zero_or_one s.size with h | h
    · exact iread_even s w h7 h
    · exact iread_long s w hs h7 h
theorem ireadr_fresh (s : ByteArray) (w : World) (hs : s.size ≤ 1048575) :
    Calls Try.prog 110 #[.string s] w fun e w' => ∃ A n c, e = .returned (.tuple #[.agg #[.int .i64 (irK s), .int .i64 (irG s), .int .i64 (irS s), .slice A n c], .int .i64 (irE s)]) ∧ RowsIn w' w'.heap.size A n c PlaceD.cells 2 (irP s) ∧ Below w.heap.size w w' ∧ (∀ a, A = some a → w.heap.size ≤ a.block) := by
  by_cases h7 : s.size < 7
  · exact ireadr_short s w h7
  · exact ireadr_long s w hs h7
theorem iread_any (s : ByteArray) (w : World) (hs : s.size ≤ 1048575) :
    Calls Try.prog 100 #[.string s] w fun e w' => ∃ A n c, e = .returned (.tuple #[.agg #[.int .i64 (irK s), .int .i64 (irG s), .int .i64 (irS s), .slice A n c], .int .i64 (irE s)]) ∧ RowsIn w' w'.heap.size A n c PlaceD.cells 2 (irP s) ∧ Below w.heap.size w w' :=
  (iread_fresh s w hs).mono fun _ _ ⟨A, n, c, h1, h2, h3, _⟩ => ⟨A, n, c, h1, h2, h3⟩
theorem ireadr_any (s : ByteArray) (w : World) (hs : s.size ≤ 1048575) :
    Calls Try.prog 110 #[.string s] w fun e w' => ∃ A n c, e = .returned (.tuple #[.agg #[.int .i64 (irK s), .int .i64 (irG s), .int .i64 (irS s), .slice A n c], .int .i64 (irE s)]) ∧ RowsIn w' w'.heap.size A n c PlaceD.cells 2 (irP s) ∧ Below w.heap.size w w' :=
  (ireadr_fresh s w hs).mono fun _ _ ⟨A, n, c, h1, h2, h3, _⟩ => ⟨A, n, c, h1, h2, h3⟩
end Go.Proofs.Ytjmgocfoimhmjaa
