/- linenref.Pieces, walked. -/
import Derived.Test.YtgidfmdbaimcnaaDoorGrC
import Derived.Test.YtgidfmdbaimcnaaDoorGrA
import Derived.Deep.CutBlock
namespace Go.Proofs.YtgidfmdbaimcnaaDoor
open Go.RowKit Go.Shelf Go.PlainAid

section
variable {A : Option Addr} {n c : Nat} {l r : List Int} {w : World} {sp : List (Int × Int)}
theorem rclass_no (h : clsR [] (unbang (l.drop 1)) = none) (hr : RowsIn w w.heap.size A n c e64 1 l) (hn : n ≤ 4096) (h1 : 1 ≤ n) :
    Calls Tryd.prog 16 #[.slice A n c] w fun e w' => ∃ ng D m d z, e = .returned (.tuple #[.agg (ptCells false ng D m d), .int .i64 z, .bool false]) ∧ Below w.heap.size w w' := by
  refine (rclass_any A n c l w hr hn h1).mono ?_
  rintro e w' ⟨ng, ok, D, m, d, z, rfl, hb, h5⟩
  cases ok with
  | false => exact ⟨ng, D, m, d, z, rfl, hb⟩
  | true =>
    rw [if_pos rfl] at h5
    obtain ⟨sp, k', h6, _⟩ := h5
    rw [h] at h6; cases h6
theorem rclass_yes (h : clsR [] (unbang (l.drop 1)) = some (sp, r)) (hr : RowsIn w w.heap.size A n c e64 1 l) (hn : n ≤ 4096) (h1 : 1 ≤ n) :
    Calls Tryd.prog 16 #[.slice A n c] w fun e w' => ∃ D d, ∃ k' : Nat, e = .returned (.tuple #[.agg (ptCells false (bang (l.drop 1)) D sp.length d), .int .i64 k', .bool true]) ∧ r = l.drop k' ∧ 1 ≤ k' ∧ k' ≤ n ∧ Below w.heap.size w w' ∧ RowsIn w' w'.heap.size D sp.length d spnR 2 sp ∧ (∀ a, D = some a → w.heap.size ≤ a.block) := by
  refine (rclass_any A n c l w hr hn h1).mono ?_
  rintro e w' ⟨ng, ok, D, m, d, z, rfl, hb, h5⟩
  cases ok with
  | false => rw [if_neg (by decide), h] at h5; cases h5
  | true =>
    rw [if_pos rfl] at h5
    obtain ⟨sp', k', h6, rfl, h7, h8, rfl, rfl, h9, h10⟩ := h5
    rw [h] at h6
    injection h6 with h6; injection h6 with e1 e2
    subst e1
    exact ⟨D, d, k', rfl, e2, h7, h8, hb, h9, h10⟩
end
theorem info_pieceL : (Tryd.prog.info? 44).map (fun i => (i.zero, i.size, i.bytes)) = some (some (.agg #[.bool false, .bool false, .slice none 0 0]), 3, 32) := by kernel_rfl
def PcsPost (l : List Int) (w : World) (e : Ending) (w' : World) : Prop :=
  ∃ (qs : List (PtV × Pc)) (D : Option Addr) (d : Nat), e = .returned (.tuple #[.slice D qs.length d, .bool (ptsR l).isSome]) ∧ RowsIn w' w'.heap.size D qs.length d PtV.cells 3 (qs.map (·.1)) ∧ PReps spnR w' w'.heap.size qs ∧ (∀ pcs, ptsR l = some pcs → qs.map (·.2) = pcs) ∧ qs.length ≤ l.length ∧ Below w.heap.size w w'
theorem pcs_none {l : List Int} {w w' : World} (h : ptsR l = none) (hb : Below w.heap.size w w') : PcsPost l w (.returned (.tuple #[.slice none 0 0, .bool false])) w' :=
  ⟨[], none, 0, by rw [h]; rfl, ⟨rfl, Nat.le_refl _, Nat.zero_le _, fun i x hx => by simp at hx⟩, fun q hq => (by simp at hq), fun pcs hp => (by rw [h] at hp; cases hp), Nat.zero_le _, hb⟩
theorem rowsN (enc : Int × Int → List Value) (w : World) (B : Nat) : RowsIn w B none 0 0 enc 2 [] := ⟨rfl, Nat.le_refl _, Nat.zero_le _, fun i x hx => by simp at hx⟩
def PiP (w : World) (l : List Int) (n k : Nat) (wx : World) : Prop :=
  ∃ (v : PtV) (y : Pc), wx.heap[w.heap.size]? = some (.cells #[.bool v.ru, .bool v.ng, .slice v.A v.n v.c] 44 (0, 0)) ∧ PRep spnR wx wx.heap.size v y ∧ ptsR l = (ptsR (l.drop k)).map (y :: ·) ∧ 1 ≤ k ∧ k ≤ n ∧ Below w.heap.size w wx
theorem pi_one {w wa : World} {l : List Int} {n k : Nat} {x : Int} (BX : wa.heap[w.heap.size]? = some (.cells (ptCells false false none 0 0) 44 (0, 0))) (HB : Below w.heap.size w wa)
    (hp : ptsR l = (ptsR (l.drop k)).map (one x :: ·)) (h1 : 1 ≤ k) (h2 : k ≤ n) :
    PiP w l n k ((wa.setCell ⟨w.heap.size, 2, none⟩ (.slice (some ⟨wa.heap.size, 0, none⟩) 1 1)).alloc (.cells #[.int .i64 x, .int .i64 x] 59)).drew := by
  have hs : (wa.setCell ⟨w.heap.size, 2, none⟩ (.slice (some ⟨wa.heap.size, 0, none⟩) 1 1)).heap.size = wa.heap.size := by simp [World.setCell]
  have hb := row_store (j := 2) (v := .slice (some ⟨wa.heap.size, 0, none⟩) 1 1) BX
  have hn := heap_alloc_new (wa.setCell ⟨w.heap.size, 2, none⟩ (.slice (some ⟨wa.heap.size, 0, none⟩) 1 1)) (.cells #[.int .i64 x, .int .i64 x] 59)
  rw [hs] at hn
  have hB2 : Below w.heap.size w (wa.setCell ⟨w.heap.size, 2, none⟩ (.slice (some ⟨wa.heap.size, 0, none⟩) 1 1)) := HB.setCell (p := ⟨w.heap.size, 2, none⟩) (Nat.le_refl _) _
  refine ⟨⟨false, false, some ⟨wa.heap.size, 0, none⟩, 1, 1⟩, one x, ?_, ⟨rfl, rfl, ⟨rfl, Nat.le_refl _, by show (1 : Nat) ≤ maxLen; unfold maxLen; decide, fun i z hz => ?_⟩⟩, hp, h1, h2, (hB2.alloc (by rw [hs]; exact HB.size) _).drew⟩
  · have := row_alloc (by simpa [ptCells] using hb) (.cells #[.int .i64 x, .int .i64 x] 59)
    exact this
  · obtain ⟨rfl, rfl⟩ : i = 0 ∧ z = (x, x) := by
      cases i with
      | zero => simp [one] at hz; exact ⟨rfl, hz.symm⟩
      | succ i => simp [one] at hz
    refine ⟨wa.heap.size, 0, rfl, ?_, fun j u hu => ?_⟩
    · show wa.heap.size < (World.alloc _ _).heap.size
      rw [World.size_alloc, hs]; omega
    · rw [Nat.zero_mul, Nat.add_zero, Nat.zero_add]
      show (World.alloc _ _).cell? _ = _
      rw [row_cell hn j]
      simpa [spnR] using hu
theorem rep_set {wx : World} {p : Nat} {v : PtV} {y : Pc} (hpr : PRep spnR wx wx.heap.size v y) (hva : ∀ a, v.A = some a → a.block ≠ p) (cs' : Array Value) : PRep spnR (wx.setRow p cs') (wx.setRow p cs').heap.size v y :=
  ⟨hpr.run, hpr.neg, rows_apart hpr.row fun g ⟨o, e⟩ hg => ⟨by rw [setRow_size]; exact hg, setRow_other _ _ _ _ (hva _ e)⟩⟩
set_option maxRecDepth 100000 in
set_option maxHeartbeats 2000000 in
theorem pieces_any : ∀ (N n : Nat) (A : Option Addr) (c : Nat) (l : List Int) (w : World), n < N → RowsIn w w.heap.size A n c e64 1 l → n ≤ 4096 →
    Calls Tryd.prog 10 #[.slice A n c] w (PcsPost l w) := by
  intro N
  induction N with
  | zero => intro n A c l w h; omega
  | succ N ih =>
    intro n A c l w hN hr hn
    have HIH := Lib.hid ih
    clear ih
    cases l with
    | nil =>
      obtain rfl : 0 = n := hr.len
      have P : Hid (PcsPost [] w (.returned (.tuple #[.slice none 0 0, .bool true])) w) := ⟨[], none, 0, rfl, ⟨rfl, Nat.le_refl _, Nat.zero_le _, fun i x hx => by simp at hx⟩, fun q hq => (by simp at hq), fun pcs hp => (by cases hp; rfl), Nat.zero_le _, Below.refl _ _⟩
      generalize PcsPost [] w = PP at *
      clear hr hN hn
      go_enter Tryd.func10, Tryd.ntmps10
      go_wp2
      exact P.out
    | cons x0 l' =>
      obtain ⟨l, hl⟩ : ∃ l, x0 :: l' = l := ⟨_, rfl⟩
      have hx0 : l[0]? = some x0 := by rw [← hl]; rfl
      rw [hl] at hr ⊢
      clear hl
      have hnl := hr.len
      have hnc := hr.le
      have h1 : 1 ≤ n := by have := (List.getElem?_eq_some_iff.1 hx0).1; omega
      obtain ⟨g, o, rfl, hg, hc0⟩ := hr.one hx0
      have hc0 : w.cell? ⟨g, o, none⟩ = some (.int .i64 x0) := hc0
      have HR := Lib.hid hr
      have HN := Lib.hid hn
      have HNN : Hid (n ≤ N) := by show _ ≤ _; omega
      have HNL := Lib.hid hnl
      have HNC := Lib.hid hnc
      have H1 := Lib.hid h1
      have HX0 := Lib.hid hx0
      have k1 : ((n : Int) == 0) = false := beq_eq_false_iff_ne.2 (by omega)
      have k2 : (0 : Int) < (n : Int) := by omega
      have k3 : 0 < n := by omega
      obtain ⟨wa, hwa⟩ : ∃ wa, wa = w.alloc (.cells (ptCells false false none 0 0) 44) := ⟨_, rfl⟩
      have BX : Hid (wa.heap[w.heap.size]? = some (.cells (ptCells false false none 0 0) 44 (0, 0))) := by show _ = _; rw [hwa]; exact heap_alloc_new w _
      have HB : Hid (Below w.heap.size w wa) := by show Below _ _ _; rw [hwa]; exact (Below.refl _ _).alloc (Nat.le_refl _) _
      have HZ : Hid (wa.heap.size = w.heap.size + 1) := by show _ = _; rw [hwa]; simp
      have HRA : Hid (RowsIn wa w.heap.size (some ⟨g, o, none⟩) n c e64 1 l) := hr.below HB.out
      have HWA := Lib.hid hwa
      clear hr hn hnl hnc h1 hx0 hwa hN
      go_enter Tryd.func10, Tryd.ntmps10
      go_upto_block 0 with fail
      rw [← HWA.out]
      clear HWA
      have b0 := row_cell BX.out 0
      have b1 := row_cell BX.out 1
      have b2 := row_cell BX.out 2
      have f0 := row_cold BX.out 0
      have f1 := row_cold BX.out 1
      have f2 := row_cold BX.out 2
      have hzl : w.heap.size < wa.heap.size := by have := HZ.out; omega
      go_cut [5] (fun s5 wx => ∃ k : Nat, s5 = .int .i64 k ∧ PiP w l n k wx)
      case first =>
        by_cases q4 : x0 = 92
        · subst q4
          by_cases h2 : n < 2
          · have hn1 : n = 1 := by have := H1.out; omega
            have F : Hid (ptsR l = none) := by
              have := nx_half (l := l) (k := 0) HX0.out (by have := HNL.out; omega)
              rw [List.drop_zero] at this
              exact ptsR_none (fun e => by have := HNL.out; rw [e, List.length_nil] at this; omega) this
            have h2c : (n : Int) < 2 := by omega
            clear hn1
            go_wp2
            go_ret2
            exact pcs_none F.out HB.out
          · have h2c : ¬ (n : Int) < 2 := by omega
            obtain ⟨x1, hx1⟩ : ∃ x, l[1]? = some x := ⟨_, List.getElem?_eq_getElem (by have := HNL.out; omega)⟩
            obtain ⟨g', o', e, _, hc1⟩ := HRA.out.one hx1
            injection e with e; injection e with e1 e2; subst e1; subst e2
            have HNX : Hid (nx l = some (x1, true, l.drop 2)) := by
              have := nx_esc (l := l) (k := 0) HX0.out hx1
              rwa [List.drop_zero] at this
            have h2d : (1 : Int) < (n : Int) := by omega
            have h2e : 1 < n := by omega
            have hgw : g < wa.heap.size := by omega
            clear hx1
            go_wp2
            go_region
            all_goals
              go_wp2
              go_meet
              case rel => exact ⟨2, rfl, pi_one BX.out HB.out (by rw [ptsR_esc HNX.out]) (by decide) (by omega)⟩
        · have hnx0 : nx l = some (x0, false, l.drop 1) := by
            have := nx_at (l := l) (k := 0) HX0.out q4
            rwa [List.drop_zero] at this
          have hq4 : ((x0 : Int) == 92) = false := beq_eq_false_iff_ne.2 q4
          by_cases q1 : x0 = 42
          · subst q1
            have HPQ : Hid (ptsR l = (ptsR (l.drop 1)).map ((⟨true, false, []⟩ : Pc) :: ·)) := ptsR_run hnx0
            clear hnx0 q4 hq4
            go_wp2
            go_meet
            case rel => exact ⟨1, rfl, ⟨true, false, none, 0, 0⟩, ⟨true, false, []⟩, by simpa [ptCells] using row_store (j := 0) (v := .bool true) BX.out, ⟨rfl, rfl, rowsN _ _ _⟩, HPQ.out, Nat.le_refl _, H1.out, HB.out.setCell (p := ⟨w.heap.size, 0, none⟩) (Nat.le_refl _) _⟩
          · have hq1 : ((x0 : Int) == 42) = false := beq_eq_false_iff_ne.2 q1
            by_cases q2 : x0 = 63
            · subst q2
              have HPQ : Hid (ptsR l = (ptsR (l.drop 1)).map ((⟨false, true, []⟩ : Pc) :: ·)) := ptsR_any hnx0
              clear hnx0 q4 hq4 q1 hq1
              go_wp2
              go_meet
              case rel => exact ⟨1, rfl, ⟨false, true, none, 0, 0⟩, ⟨false, true, []⟩, by simpa [ptCells] using row_store (j := 1) (v := .bool true) BX.out, ⟨rfl, rfl, rowsN _ _ _⟩, HPQ.out, Nat.le_refl _, H1.out, HB.out.setCell (p := ⟨w.heap.size, 1, none⟩) (Nat.le_refl _) _⟩
            · have hq2 : ((x0 : Int) == 63) = false := beq_eq_false_iff_ne.2 q2
              by_cases q3 : x0 = 91
              · subst q3
                have hrows := HRA.out.more (B' := wa.heap.size) (by omega)
                clear q4 hq4 q1 hq1 q2 hq2
                cases hcl : clsR [] (unbang (l.drop 1)) with
                | none =>
                  have HCL := Lib.hid (rclass_no hcl hrows HN.out H1.out)
                  have F : Hid (ptsR l = none) := ptsR_clsN hnx0 hcl
                  clear hcl hrows hnx0
                  go_wp2_with (first
                    | (go_at_call 16; refine HCL.out.mono ?_; rintro e w6 ⟨ng, E, m, d, z, rfl, h1⟩; have HB6 := Lib.hid (HB.out.trans (h1.mono HB.out.size)); have BX6 := Lib.hid (row_below BX.out hzl h1); have hone1 : Hid ((ptCells false ng E m d).all (·.oneCell') = true) := (by simp [Hid, Value.oneCell']); clear h1)
                    | (refine wpList_store_rowTo rfl _ _ _ rfl rfl w.heap.size (ptCells false ng E m d) rfl rfl 44 (ptCells false false none 0 0) BX6.out info_piece rfl hone1.out ?_))
                  go_ret2
                  exact pcs_none F.out (below_setRow HB6.out (Nat.le_refl _) _)
                | some z =>
                  obtain ⟨sp, r2⟩ := z
                  have HCL := Lib.hid (rclass_yes hcl hrows HN.out H1.out)
                  have HPQ : Hid (ptsR l = (ptsR r2).map ((⟨false, bang (l.drop 1), sp⟩ : Pc) :: ·)) := ptsR_cls hnx0 hcl
                  clear hcl hrows hnx0
                  generalize hbg : bang (l.drop 1) = bg at *
                  clear hbg
                  go_wp2_with (first
                    | (go_at_call 16; refine HCL.out.mono ?_; rintro e w6 ⟨E, d, k6, rfl, h1, h2, h3, h5, h6, h7⟩; have HB6 := Lib.hid (HB.out.trans (h5.mono HB.out.size)); have BX6 := Lib.hid (row_below BX.out hzl h5); have hone1 : Hid ((ptCells false bg E sp.length d).all (·.oneCell') = true) := (by simp [Hid, Value.oneCell']); have K1 := Lib.hid h1; have K2 := Lib.hid h2; have K3 := Lib.hid h3; have K6 := Lib.hid h6; have K7 := Lib.hid h7; clear h1 h2 h3 h5 h6 h7)
                    | (refine wpList_store_rowTo rfl _ _ _ rfl rfl w.heap.size (ptCells false bg E sp.length d) rfl rfl 44 (ptCells false false none 0 0) BX6.out info_piece rfl hone1.out ?_))
                  go_meet
                  case rel => exact ⟨k6, rfl, ⟨false, bg, E, sp.length, d⟩, ⟨false, bg, sp⟩, row_set BX6.out, rep_set ⟨rfl, rfl, K6.out⟩ (fun a ha => by have := K7.out a ha; omega) _, by rw [HPQ.out, K1.out], K2.out, K3.out, below_setRow HB6.out (Nat.le_refl _) _⟩
              · have hq3 : ((x0 : Int) == 91) = false := beq_eq_false_iff_ne.2 q3
                have HPQ : Hid (ptsR l = (ptsR (l.drop 1)).map (one x0 :: ·)) := ptsR_one hnx0 q1 q2 q3
                have hc0' : wa.cell? ⟨g, o, none⟩ = some (.int .i64 x0) := (HB.out.cell (p := ⟨g, o, none⟩) hg).trans hc0
                have hgw : g < wa.heap.size := by omega
                clear hnx0 q4 q1 q2 q3
                go_wp2
                go_region
                all_goals
                  go_wp2
                  go_meet
                  case rel => exact ⟨1, rfl, pi_one BX.out HB.out HPQ.out (Nat.le_refl _) H1.out⟩
      case rest =>
        obtain ⟨k, rfl, v, y, hbx, hpr, hpq, h1k, hkn, hbw⟩ := hcut
        clear b0 b1 b2 f0 f1 f2 BX
        have hrows := HR.out.below hbw
        have hsz := hbw.size
        have hzw : w.heap.size < wc.heap.size := row_lt hbx
        have hkc : (k : Int) ≤ (c : Int) := by have := HNC.out; omega
        have hkn2 : (k : Int) ≤ (n : Int) := by omega
        obtain ⟨A2, hA2⟩ : ∃ z, (if c = k then some (⟨g, o, none⟩ : Addr) else some ⟨g, o + k, none⟩) = z := ⟨_, rfl⟩
        obtain ⟨M2, hM2⟩ : ∃ z, n - k = z := ⟨_, rfl⟩
        obtain ⟨C2, hC2⟩ : ∃ z, c - k = z := ⟨_, rfl⟩
        have hsuf : RowsIn wc wc.heap.size A2 M2 C2 e64 1 (l.drop k) := by
          have := (hrows.more hsz).suf_any (n := k) hkn
          rw [Nat.mul_one, hA2, hM2, hC2] at this
          exact this
        have hC := HIH.out M2 A2 C2 (l.drop k) wc (by have := HNN.out; omega) hsuf (by have := HN.out; omega)
        unfold PcsPost at hC
        obtain ⟨ok, hok⟩ : ∃ b, (ptsR (l.drop k)).isSome = b := ⟨_, rfl⟩
        rw [hok] at hC
        have hokl : (ptsR l).isSome = ok := by rw [hpq, ← hok]; cases ptsR (l.drop k) <;> rfl
        have hdl : (l.drop k).length = n - k := by rw [List.length_drop, HNL.out]
        rw [hdl] at hC
        have HC := Lib.hid hC
        have HOK := Lib.hid hokl
        have HBX := Lib.hid hbx
        have HPR := Lib.hid hpr
        have HPQ := Lib.hid hpq
        have HBW := Lib.hid hbw
        have hn40 := HN.out
        have h1k' := Lib.hid h1k
        clear hC hok hokl hbx hpr hpq hbw hsuf hrows hdl h1k
        go_wp2_with (first
          | (go_at_call 10; refine HC.out.mono ?_; rintro e w4 ⟨qs, E, d, rfl, g1, g2, g3, g4, g5⟩; have HX4 := Lib.hid (row_below HBX.out (by omega) g5); have b0 := row_cell HX4.out 0; have b1 := row_cell HX4.out 1; have b2 := row_cell HX4.out 2; have G1 := Lib.hid g1; have G2 := Lib.hid g2; have G3 := Lib.hid g3; have G4 := Lib.hid g4; have G5 := Lib.hid g5; clear g1 g2 g3 g4 g5)
          | (at_builtin; refine wpList_appRow (enc := PtV.cells) rfl rfl Tryd.underlying38 info_pieceL rfl (by decide) (Owns.fresh1 w4 [.bool v.ru, .bool v.ng, .slice v.A v.n v.c] 44 rfl) rfl (by simp) rfl (G1.out.alloc (Nat.le_refl _) _) PtV.len ?_ ?_ ?_ ?_; (intro y2 u hu; simp [PtV.cells] at hu; rcases hu with rfl | rfl | rfl <;> rfl); (have := G4.out; unfold maxLen; omega); (have := G4.out; omega); intro A5 c5 w5 hown5 hl5 hbk5; have HO5 := Lib.hid hown5; have HL5 := Lib.hid hl5; clear hown5 hl5 hbk5))
        go_ret2
        have hb5 : Below w4.heap.size w4 w5 := HL5.out.below (Nat.le_refl _) ((Below.refl _ _).alloc (Nat.le_refl _) _)
        have ho5 : Owns w5 w4.heap.size 3 (.slice A5 (1 + qs.length) c5) (1 + qs.length) ((v :: qs.map (·.1)).flatMap PtV.cells) := HO5.out
        have hle : 1 + qs.length = ((v, y) :: qs).length := by simp [Nat.add_comm]
        have hro := ho5.rows (enc := PtV.cells) (k := 3) PtV.len (by decide)
        have hz5 := hb5.size
        rw [hle] at hro ⊢
        refine ⟨(v, y) :: qs, A5, c5, by rw [HOK.out] <;> rfl, hro, fun q hq => ?_, fun pcs hp => ?_, by have := G4.out; have := HNL.out; have := h1k'.out; simp; omega, HBW.out.trans ((G5.out.trans (hb5.mono G5.out.size)).mono hsz)⟩
        · rcases List.mem_cons.1 hq with rfl | hq
          · exact ((HPR.out.below G5.out).more G5.out.size |>.below hb5).more hz5
          · exact ((G2.out q hq).below hb5).more hz5
        · rw [HPQ.out] at hp
          cases h : ptsR (l.drop k) with
          | none => rw [h] at hp; cases hp
          | some r =>
            rw [h] at hp
            injection hp with hp
            rw [← hp, List.map_cons, G3.out r h]
end Go.Proofs.YtgidfmdbaimcnaaDoor
