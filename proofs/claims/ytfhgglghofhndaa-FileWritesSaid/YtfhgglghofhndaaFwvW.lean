/- file.Write, walked. -/
import Derived.Test.YtfhgglghofhndaaFwrR
import Derived.Test.YtfhgglghofhndaaFwvP
import Derived.Test.YtfhgglghofhndaaCpyS
namespace Go.Proofs.Ytfhgglghofhndaa
open Go.RowKit Go.PlainAid

theorem info_u8Z : (Try.prog.info? 5).map (fun i => (i.zero, i.size, i.bytes)) = some (some (.int .u8 0), 1, 1) := by kernel_rfl
theorem info_u8S : (Try.prog.info? 5).map (·.size) = some 1 := by kernel_rfl
theorem mk_byt (N : Nat) (hN : N ≤ 1024) : ∀ W : World, (Instr.makeSlice 72 (.int .i64 (N : Int)) (.int .i64 (N : Int))).run Try.prog W = .ok (.slice (some ⟨W.heap.size, 0, none⟩) N N) (W.alloc (.cells (bcs (zer N)).toArray 5)) := fun W => by
  obtain ⟨i, hi, hzz⟩ := Option.map_eq_some_iff.1 info_u8Z
  simp only [Prod.mk.injEq] at hzz
  obtain ⟨hz, hs, hbb⟩ := hzz
  have := run_make (P := Try.prog) W 72 5 i (.int .u8 0) Try.underlying72 hi hz .i64 .i64 N N (by omega) (by omega) (by rw [hbb]; omega) (by omega)
  rw [hs] at this
  rw [this, Int.toNat_natCast]
  have e : madeCells (Value.int .u8 0).cells (N * 1) = (bcs (zer N)).toArray := by
    apply Array.ext'
    rw [Nat.mul_one]
    refine (toList_madeCells_one (.int .u8 0) N).trans ?_
    simp [bcs, Lib.byteCells, zer]
  rw [e]

/-- file.Write's state while it lays clusters. -/
structure FwI (w : World) (ps : List ByteArray) (O : List UInt8) (z a b g d : Nat) (wr : World) : Prop where
  own : Owns wr (w.heap.size + 2) 1 (.slice (some ⟨b, 0, none⟩) (npt z) (npt z)) (npt z) ((wrD ps O z a d).map Value.string)
  out : wr.heap[g]? = some (.cells #[.int .i64 z, .slice (some ⟨b, 0, none⟩) (npt z) (npt z)] 24 (0, 0))
  res : wr.heap[w.heap.size + 1]? = some (.cells zeroDaZ 24 (0, 0))
  below : Below w.heap.size w wr
  gb : w.heap.size + 2 ≤ g
  ne : b ≠ g
  size : w.heap.size + 2 ≤ wr.heap.size
section
variable {w wr w1 : World} {ps : List ByteArray} {O : List UInt8} {z a b g d n : Nat}
theorem FwI.go (h : FwI w ps O z a b g d wr) (hb : Below wr.heap.size wr w1) : FwI w ps O z a b g d w1 :=
  { own := h.own.fresh_below hb, out := row_below h.out (row_lt h.out) hb, res := row_below h.res (row_lt h.res) hb, below := h.below.trans (hb.mono h.below.size), gb := h.gb, ne := h.ne, size := Nat.le_trans h.size hb.size }
theorem FwI.bb (h : FwI w ps O z a b g d wr) : w.heap.size + 2 ≤ b := (h.own.lt b rfl).1
theorem FwI.set (h : FwI w ps O z a b g d wr) (i : Nat) (V : ByteArray) (hV : (wrD ps O z a d).set i V = wrD ps O z a (d + n)) : FwI w ps O z a b g (d + n) (wr.setCell ⟨b, i, none⟩ (.string V)) := by
  have hb := h.bb
  refine { own := ?_, out := row_other (a := ⟨b, i, none⟩) h.out h.ne.symm, res := row_other (a := ⟨b, i, none⟩) h.res (by show _ ≠ b; omega), below := h.below.setCell (show w.heap.size ≤ b by omega) _, gb := h.gb, ne := h.ne, size := by simp [World.setCell]; exact h.size }
  have := h.own.set i (.string V)
  rw [Nat.zero_add, ← List.map_set, hV] at this
  exact this
theorem FwI.cells (h : FwI w ps O z a b g d wr) : wr.cell? ⟨g, 1, none⟩ = some (.slice (some ⟨b, 0, none⟩) (npt z) (npt z)) ∧ wr.cell? ⟨g, 0, none⟩ = some (.int .i64 z) := ⟨row_cell h.out 1, row_cell h.out 0⟩
theorem FwI.at_ (h : FwI w ps O z a b g d wr) {i : Nat} {x : ByteArray} (hx : (wrD ps O z a d)[i]? = some x) : wr.cell? ⟨b, i, none⟩ = some (.string x) ∧ wr.frozen? ⟨b, i, none⟩ = false := by
  obtain ⟨_, _, _, e1, _, _, c1, f1⟩ := h.own.at_ (j := i) (u := .string x) (by rw [List.getElem?_map, hx]; rfl)
  injection e1 with e1 _ _; injection e1 with e1; injection e1 with e1 e2 _
  subst e1; subst e2
  rw [Nat.zero_add] at c1 f1
  exact ⟨c1, f1⟩
end

set_option maxRecDepth 20000 in
set_option maxHeartbeats 4000000 in
theorem fwrite_any (sz : Int) (A : Option Addr) (m c : Nat) (ps : List ByteArray) (a : Int) (t : ByteArray) (w : World) (r : RowsIn w w.heap.size A m c (fun z => [.string z]) 1 ps) :
    Calls Try.prog 20 #[.agg #[.int .i64 sz, .slice A m c], .int .i64 a, .string t] w (FwPost sz a t ps w) := by
  obtain ⟨wa, hwa⟩ : ∃ wa, wa = (w.alloc (.cells #[.int .i64 sz, .slice A m c] 24)).alloc (.cells zeroDaZ 24) := ⟨_, rfl⟩
  have I0 : Hid (FcI w sz A m c wa) := by rw [hwa]; exact fcI_new w sz A m c
  have R : Hid (∀ W, Below w.heap.size w W → RowsIn W W.heap.size A m c (fun z => [.string z]) 1 ps) := fun W h => (r.below h).more h.size
  have HCk := Lib.hid (fcheck_any sz A m c ps wa (R.out wa I0.out.below))
  have c0 : wa.cell? ⟨w.heap.size, 0, none⟩ = some (.int .i64 sz) := row_cell I0.out.box 0
  have c1 : wa.cell? ⟨w.heap.size, 1, none⟩ = some (.slice A m c) := row_cell I0.out.box 1
  have HWA := Lib.hid hwa
  have hone0 : Hid ((zeroDaZ : Array Value).all (·.oneCell') = true) := by simp [Hid, zeroDaZ, Value.oneCell']
  clear r hwa
  by_cases hd : datE sz ps = 0
  · obtain ⟨⟨z0, z1⟩, hok⟩ := datE_zero hd
    rw [hd] at HCk
    by_cases hn : a < 0
    · have F := Lib.hid (fw_arg (t := t) hd hn)
      clear hd hok
      go_enter Try.func20, Try.ntmps20
      go_wp2_with (first
        | (go_at_call 15; rw [← HWA.out]; refine HCk.out.mono ?_; rintro e w1 ⟨rfl, hb1⟩; have I1 := Lib.hid (I0.out.go hb1))
        | (refine wpList_store_rowTo rfl _ _ _ rfl rfl (w.heap.size + 1) zeroDaZ rfl rfl 24 zeroDaZ I1.out.res info_datZ rfl hone0.out ?_))
      refine bodyPost_ret (results_cell_tmp_row rfl _ _ (w.heap.size + 1) _ zeroDaZ (0, 0) _ rfl (row_set I1.out.res) Try.underlying24 rfl info_datZ) rfl ?_
      exact fwPost_bad F.out (by decide) (below_setRow I1.out.below (by omega) _)
    · obtain ⟨k, rfl⟩ : ∃ k : Nat, sz = (k : Int) := ⟨sz.toNat, by omega⟩
      by_cases ht : t.size = 0
      · have F := Lib.hid (fw_nil hd hn ht)
        have hcs : cutL ps k = ps := cut_self hok
        have HSD : Hid (∀ W, Below w.heap.size w W → Calls Try.prog 54 #[.agg #[.int .i64 k, .slice A m c], .int .i64 k] W (SdPost ps k W)) := fun W h => sized_any k A m c ps k (by omega) W (R.out W h) (parts_small hok)
        unfold SdPost at HSD
        rw [hcs] at HSD
        obtain rfl : t = ⟨#[]⟩ := size_zero ht
        clear hd hok hcs ht
        go_enter Try.func20, Try.ntmps20
        go_wp2_with (first
          | (go_at_call 15; rw [← HWA.out]; refine HCk.out.mono ?_; rintro e w1 ⟨rfl, hb1⟩; have I1 := Lib.hid (I0.out.go hb1); have k0 := row_cell I1.out.box 0; have k1 := row_cell I1.out.box 1)
          | (go_at_call 54; refine (HSD.out _ I1.out.below).mono ?_; rintro e w2 ⟨b, rfl, ho2, hb2⟩; have I2 := Lib.hid (I1.out.go hb2); have HO2 := Lib.hid ho2; have hone : Hid ((#[.int .i64 k, .slice (some ⟨b, 0, none⟩) (npt k) (npt k)] : Array Value).all (·.oneCell') = true) := hone2 _ _ _ _; clear hb2 ho2)
          | (refine wpList_store_rowTo rfl _ _ _ rfl rfl (w.heap.size + 1) #[.int .i64 k, .slice (some ⟨b, 0, none⟩) (npt k) (npt k)] rfl rfl 24 zeroDaZ I2.out.res info_datZ rfl hone.out ?_))
        refine bodyPost_ret (results_cell_tmp_row rfl _ _ (w.heap.size + 1) _ #[.int .i64 k, .slice (some ⟨b, 0, none⟩) (npt k) (npt k)] (0, 0) _ rfl (row_set I2.out.res) Try.underlying24 rfl info_datZ) rfl ?_
        exact fwPost_nil F.out rfl (own_strsF (HO2.out.setRow (by have := I1.out.size; omega) _)) (below_setRow I2.out.below (by omega) _)
      · have hne := emp_ne ht
        have hne2 := emp_ne2 ht
        have hne3 := emp_ne3 ht
        by_cases hl : 4096 < (t.size : Int) ∨ 4096 - (t.size : Int) < a
        · have F := Lib.hid (fw_large hd hn ht hl)
          clear hd hok ht
          rcases (show 4096 < (t.size : Int) ∨ (¬ 4096 < (t.size : Int) ∧ 4096 - (t.size : Int) < a) by omega) with j1 | ⟨j1, j2⟩
          all_goals
            go_enter Try.func20, Try.ntmps20
            go_wp2_with (first
              | (go_at_call 15; rw [← HWA.out]; refine HCk.out.mono ?_; rintro e w1 ⟨rfl, hb1⟩; have I1 := Lib.hid (I0.out.go hb1))
              | (refine wpList_store_rowTo rfl _ _ _ rfl rfl (w.heap.size + 1) zeroDaZ rfl rfl 24 zeroDaZ I1.out.res info_datZ rfl hone0.out ?_))
            refine bodyPost_ret (results_cell_tmp_row rfl _ _ (w.heap.size + 1) _ zeroDaZ (0, 0) _ rfl (row_set I1.out.res) Try.underlying24 rfl info_datZ) rfl ?_
            exact fwPost_bad F.out (by decide) (below_setRow I1.out.below (by omega) _)
        · have F := Lib.hid (fw_ok hd hn ht hl)
          obtain ⟨a', rfl⟩ : ∃ k : Nat, a = (k : Int) := ⟨a.toNat, by omega⟩
          obtain ⟨z, hz⟩ : ∃ z, z = max k (a' + t.size) := ⟨_, rfl⟩
          have hz4 : z ≤ 4096 := by omega
          have HZ4 := Lib.hid hz4
          obtain ⟨O, hO⟩ : ∃ O, O = ovl (szd (whB k 0 ps) z) a' (bl t) := ⟨_, rfl⟩
          have HSD : Hid (∀ W, Below w.heap.size w W → Calls Try.prog 54 #[.agg #[.int .i64 k, .slice A m c], .int .i64 z] W (SdPost ps z W)) := fun W h => sized_any k A m c ps z (by omega) W (R.out W h) (parts_small hok)
          unfold SdPost at HSD
          have hmx : max (k : Int) ((a' : Int) + (t.size : Int)) = (z : Int) := by omega
          have j1 : ¬ 4096 < (t.size : Int) := by omega
          have j2 : ¬ 4096 - (t.size : Int) < (a' : Int) := by omega
          have HJ := Lib.hid j2
          have HOK := Lib.hid hok
          have HO := Lib.hid hO
          have HZ := Lib.hid hz
          have HT := Lib.hid ht
          have HW0 : Hid (wrD ps O z a' 0 = cutL ps z) := rfl
          clear hd hok hz hO hz4 ht z0 z1
          go_enter Try.func20, Try.ntmps20
          go_wp2_with (first
            | (go_at_call 15; rw [← HWA.out]; refine HCk.out.mono ?_; rintro e w1 ⟨rfl, hb1⟩; have I1 := Lib.hid (I0.out.go hb1); have k0 := row_cell I1.out.box 0; have k1 := row_cell I1.out.box 1)
            | (go_at_call 54; refine (HSD.out _ I1.out.below).mono ?_; rintro e w2 ⟨b, rfl, ho2, hb2⟩; have I2 := Lib.hid (I1.out.go hb2); have HO2 := Lib.hid ho2; clear hb2 ho2))
          go_loopw [1, 2] (fun v1 v2 wr => ∃ (p d : Nat) (T : ByteArray), Hid (p = a' + d ∧ d ≤ t.size ∧ (d = 0 ∨ p % 512 = 0 ∨ d = t.size) ∧ T = mkS ((bl t).drop d)) ∧ v1 = .int .i64 p ∧ v2 = .string T ∧ Hid (FwI w ps O z a' b w2.heap.size d wr)) (fun v1 _ _ => a' + t.size - (intOf v1).toNat)
          case atStart =>
            refine ⟨a', 0, t, ⟨rfl, Nat.zero_le _, .inl rfl, rfl⟩, rfl, rfl, ?_⟩
            have e1 := I1.out.size
            have e2 := I2.out.size
            exact { own := by rw [HW0.out]; exact (HO2.out.more I1.out.size).alloc _, out := heap_alloc_new w2 _, res := row_alloc I2.out.res _, below := I2.out.below.alloc (by omega) _, gb := I2.out.size, ne := fun e => by have := (HO2.out.lt b rfl).2; omega, size := by simp; omega }
          case round =>
            obtain ⟨p, d, T, HD, rfl, rfl, HI⟩ := hrel
            obtain ⟨wq, rfl⟩ : ∃ z : World, z = wr := ⟨_, rfl⟩
            by_cases hdl : d < t.size
            · have hD := HD.out
              have hjo := HJ.out
              have hzo := HZ.out
              have h4 := HZ4.out
              have hT : T.size = t.size - d := by rw [hD.2.2.2, mk_size, List.length_drop, bl_len]
              have hTn : T.size ≠ 0 := by omega
              have q1 := emp_ne hTn
              have q2 := emp_ne2 hTn
              have q3 := emp_ne3 hTn
              obtain ⟨i, hi⟩ : ∃ i, i = p / 512 := ⟨_, rfl⟩
              obtain ⟨u, hu⟩ : ∃ u, u = p % 512 := ⟨_, rfl⟩
              obtain ⟨n, hn'⟩ : ∃ n, n = min (t.size - d) (512 - u) := ⟨_, rfl⟩
              obtain ⟨x, hx⟩ : ∃ x, x = wid z i := ⟨_, rfl⟩
              obtain ⟨f1, f2, f3⟩ := wr_fits (z := z) (a := a') (L := t.size) (d := d) (k := u) (n := n) (by omega) hdl (by rw [hu, hD.1]) hn'
              rw [← hD.1, ← hi] at f1 f2
              rw [← hx] at f2
              have hp0 : (p : Int) ≤ 8192 := by omega
              have d1 : (p : Int).tdiv 512 = (i : Int) := by rw [Int.tdiv_eq_ediv_of_nonneg (by omega)]; omega
              have d2 : (p : Int).tmod 512 = (u : Int) := by rw [Int.tmod_eq_emod_of_nonneg (by omega)]; omega
              have d3 : (p : Int) / 512 = (i : Int) := by omega
              have d4 : (p : Int) % 512 = (u : Int) := by omega
              have hmn : min (T.size : Int) (512 - (u : Int)) = (n : Int) := by omega
              have hu0 : (u : Int) < 512 := by omega
              have hx0 : (x : Int) ≤ 512 := by rw [hx]; unfold wid; omega
              have HLO := Lib.hid (long_any z i (by omega) f1)
              rw [← hx] at HLO
              have hmk := mk_byt x (by omega)
              obtain ⟨y, hy⟩ : ∃ y, y = cutAt ps z i := ⟨_, rfl⟩
              have hyx : y.size ≤ x := by
                rw [hy]; unfold cutAt
                cases ps[i]? with
                | none => rw [mk_size]; simp
                | some p => simp only [cutPt]; split
                            · rw [mk_size]; simp
                            · rw [mk_size, List.length_append, List.length_take, zer_len, bl_len]; omega
              have hnx : (wrD ps O z a' d)[i]? = some y := by
                have := wrD_next (ps := ps) (O := O) (z := z) (a := a') (d := d) (by rw [← hD.1, ← hi]; exact f1) (by rw [← hD.1]; omega)
                rwa [← hD.1, ← hi, ← hy] at this
              obtain ⟨g0, g1⟩ := HI.out.cells
              obtain ⟨g2, g3⟩ := HI.out.at_ hnx
              have HX := Lib.hid hx
              have HNX := Lib.hid hnx
              have HU := Lib.hid hu
              have HI2 := Lib.hid hi
              have HN := Lib.hid hn'
              have HY := Lib.hid hy
              have HTZ := Lib.hid hT
              have HF1 := Lib.hid f1
              have hiN : (i : Int) < ((npt z : Nat) : Int) := by omega
              have hi16 : (i : Int) ≤ 16 := by omega
              have HF2 := Lib.hid f2
              have HDL := Lib.hid hdl
              have HYX := Lib.hid hyx
              have hT8 : (T.size : Int) ≤ 8192 := by omega
              have hnT : (n : Int) ≤ (T.size : Int) := by omega
              have hn0 : (n : Int) ≤ 512 := by omega
              have hux : (u : Int) ≤ (x : Int) := by omega
              clear hD hjo hzo h4 hT hi hu hn' hx hy hyx hnx f1 f2 hTn hdl
              obtain ⟨N, HNN⟩ : ∃ N, Hid (N = npt z) := ⟨_, rfl⟩
              rw [← HNN.out] at hiN HSD HO2 g0
              go_upto_region 15 with (go_at_call 52; refine (HLO.out _).mono ?_; rintro e w' ⟨rfl, hw'⟩; rw [hw']; clear hw')
              obtain ⟨wm, hwm⟩ : ∃ wm, wm = wq.alloc (.cells (bcs (zer x)).toArray 5) := ⟨_, rfl⟩
              have hbm : Below wq.heap.size wq wm := by rw [hwm]; exact (Below.refl _ _).alloc (Nat.le_refl _) _
              have hgm : Hid (wm.heap[wq.heap.size]? = some (.cells (bcs (zer x)).toArray 5 (0, 0))) := by rw [hwm]; exact heap_alloc_new wq _
              have HIm := Lib.hid (HI.out.go hbm)
              have HBm := Lib.hid hbm
              rw [← hwm]
              have m0 := row_cell HIm.out.out 0
              have m1 : wm.cell? ⟨w2.heap.size, 1, none⟩ = some (.slice (some ⟨b, 0, none⟩) N N) := by rw [HNN.out]; exact row_cell HIm.out.out 1
              clear hwm hbm g0 g1 g2 g3
              have g2 : wm.cell? ⟨b, i, none⟩ = some (.string y) := (HIm.out.at_ HNX.out).1
              go_upto_region 16 with (with_reducible refine wpList_copy_str rfl _ _ _ _ rfl 5 Try.underlying72 info_u8S wq.heap.size 0 x x rfl y rfl (bcs (zer x)) 5 hgm.out HYX.out (by rw [bcs_len, zer_len, Nat.zero_add]; exact HYX.out) wq.heap.size wq HBm.out (Nat.le_refl _) ?_; intro w6 HG6 hb6)
              obtain ⟨L1, hL1⟩ : ∃ L1, L1 = bl y ++ zer (x - y.size) := ⟨_, rfl⟩
              have hl1 : L1.length = x := by rw [hL1, List.length_append, zer_len, bl_len]; have := HYX.out; omega
              have HR6 : Hid (w6.heap[wq.heap.size]? = some (.cells (bcs L1).toArray 5 (0, 0))) := by
                have h6 := HG6.out
                rw [splice_bcs] at h6
                show _ = _
                rw [h6, hL1, List.take_zero, List.nil_append, Nat.zero_add, bl_len]
                unfold zer
                rw [List.drop_replicate]
              have HL1 := Lib.hid hL1
              have HLL := Lib.hid hl1
              obtain ⟨TT, hTT⟩ : ∃ TT, T.extract 0 n = TT := ⟨_, rfl⟩
              have hTs : TT.size = n := by have : (n : Int) ≤ (T.size : Int) := hnT; rw [← hTT, ByteArray.size_extract]; omega
              have HTT := Lib.hid hTT
              have HTS := Lib.hid hTs
              have hux2 : ¬ x = u := by have := HF2.out; omega
              have hux3 : ¬ u = x := fun e => hux2 e.symm
              have HLE : Hid (TT.size ≤ x - u) := by have := HF2.out; have := HTS.out; simp only [Hid]; omega
              have HFIT : Hid (u + TT.size ≤ (bcs L1).length) := by have := HF2.out; have := HTS.out; rw [bcs_len, HLL.out]; simp only [Hid]; omega
              clear hL1 hl1 hTs
              go_region_law ((refine step_copy_str rfl (.tmp 74) (.tmp 77) 72 9 rfl 5 Try.underlying72 info_u8S wq.heap.size u (x - u) (x - u) (by simp [go_sem]) TT (by simp [go_sem]) (bcs L1) 5 HR6.out HLE.out HFIT.out wq.heap.size wq hb6.drew (Nat.le_refl _) ?_; intro w7 HG7 hb7))
              all_goals
                have HSG : Hid (splice (bcs L1) u (bcs (bl TT)) = bcs (seg O z i)) := by
                  have hD := HD.out
                  rw [splice_bcs]
                  have := wr_laid (z := z) (a := a') (d := d) (n := n) (k := u) (T := bl t) HOK.out (by rw [bl_len]; exact HZ.out) (by rw [bl_len]; exact HDL.out) (by rw [HU.out, hD.1]) (by rw [bl_len]; exact HN.out) (by rw [HU.out]; have := HDL.out; omega)
                  rw [← hD.1, ← HI2.out, ← HY.out, ← HX.out, ← HL1.out] at this
                  have e2 : bl TT = ((bl t).drop d).take n := by rw [← HTT.out, hD.2.2.2, mk_extract, bl_mk]; simp
                  rw [e2]
                  unfold ovl at this
                  rw [List.append_assoc] at this
                  have e3 : O = ovl (szd (whB k 0 ps) z) a' (bl t) := HO.out
                  rw [e3]
                  exact congrArg bcs this
                obtain ⟨S, hS⟩ : ∃ S, S = seg O z i := ⟨_, rfl⟩
                have HS := Lib.hid hS
                have hSl : S.length = x := by
                  have hzo := HZ.out
                  rw [hS, seg_len (by rw [HO.out, ovl_len (by rw [szd_len, bl_len]; omega), szd_len])]; exact HX.out.symm
                have HR7 : Hid (w7.heap[wq.heap.size]? = some (.cells (bcs S).toArray 5 (0, 0))) := by
                  have := HG7.out
                  rw [HSG.out, ← hS] at this
                  exact this
                have hcv : (convert 72 9 (.slice (some ⟨wq.heap.size, 0, none⟩) x x)).run Try.prog w7 = .ok (.string (mkS S)) w7 := by
                  have := run_rowstr (P := Try.prog) (w := w7) (src := 72) (dst := 9) Try.underlying72 Try.underlying5 Try.underlying9 wq.heap.size x S HR7.out
                  rwa [hSl] at this
                have HI7 := Lib.hid (HI.out.go hb7)
                have m0 := row_cell HI7.out.out 0
                have m1 : w7.cell? ⟨w2.heap.size, 1, none⟩ = some (.slice (some ⟨b, 0, none⟩) N N) := by rw [HNN.out]; exact row_cell HI7.out.out 1
                obtain ⟨g2, g3⟩ := HI7.out.at_ HNX.out
                have HF : Hid (FwI w ps O z a' b w2.heap.size (d + n) (w7.setCell ⟨b, i, none⟩ (.string (mkS S)))) := by
                  have hD := HD.out
                  refine HI7.out.set i _ ?_
                  have := wrD_step (ps := ps) (O := O) (z := z) (a := a') (d := d) (n := n) f3 (by have := HN.out; have := HU.out; rw [← hD.1]; omega) (by have := HDL.out; rw [← hD.1]; omega)
                  rw [← hD.1, ← HI2.out, ← hS] at this
                  exact this
                clear hS hSl
                generalize mkS S = MS at *
                go_upto_region 18 with fail
                obtain ⟨w8, hw8⟩ : ∃ w8, w8 = w7.setCell ⟨b, i, none⟩ (.string MS) := ⟨_, rfl⟩
                rw [← hw8]
                rw [← hw8] at HF
                obtain ⟨T2, hT2⟩ : ∃ T2, T.extract n T.size = T2 := ⟨_, rfl⟩
                have HT2 : Hid (T2 = mkS ((bl t).drop (d + n))) := by
                  show _ = _
                  rw [← hT2, HD.out.2.2.2, mk_extract]
                  have e : (mkS (List.drop d (bl t))).size = t.size - d := by rw [mk_size, List.length_drop, bl_len]
                  rw [e, List.take_of_length_le (by rw [List.length_drop, List.length_drop, bl_len]; omega), List.drop_drop]
                clear hw8 hcv m0 m1 g2 g3
                go_quiet (fail)
                have HF2 := Lib.hid (HF.out.go (below_drewN (Below.refl _ _) nq))
                have HP : Hid (p + n = a' + (d + n) ∧ d + n ≤ t.size ∧ (d + n = 0 ∨ (p + n) % 512 = 0 ∨ d + n = t.size) ∧ T2 = mkS ((bl t).drop (d + n))) := by
                  have hD := HD.out
                  have := HN.out; have := HU.out; have := HDL.out
                  exact ⟨by omega, by omega, by omega, HT2.out⟩
                have HDL2 : Hid (p < a' + t.size) := by have := HD.out.1; have := HDL.out; simp only [Hid]; omega
                go_wp2
                go_roundw
                case rel => exact ⟨p + n, d + n, T2, HP, by go_num, rfl, HF2.out⟩
                case measure => (have := HDL2.out; simp [intOf]; try omega)
            · have hD := HD.out
              obtain rfl : T = ⟨#[]⟩ := by
                rw [hD.2.2.2, List.drop_of_length_le (by rw [bl_len]; omega)]; rfl
              obtain rfl : d = t.size := by omega
              obtain ⟨g0, g1⟩ := HI.out.cells
              have hone : Hid ((#[.int .i64 z, .slice (some ⟨b, 0, none⟩) (npt z) (npt z)] : Array Value).all (·.oneCell') = true) := hone2 _ _ _ _
              have hWL : Hid (wrD ps O z a' t.size = wrL ps O z a' t.size) := if_neg HT.out
              clear hD hdl
              go_wp2_with (refine wpList_store_rowTo rfl _ _ _ rfl rfl (w.heap.size + 1) #[.int .i64 z, .slice (some ⟨b, 0, none⟩) (npt z) (npt z)] rfl rfl 24 zeroDaZ HI.out.res info_datZ rfl hone.out ?_)
              refine bodyPost_ret (results_cell_tmp_row rfl _ _ (w.heap.size + 1) _ #[.int .i64 z, .slice (some ⟨b, 0, none⟩) (npt z) (npt z)] (0, 0) _ rfl (row_set HI.out.res) Try.underlying24 rfl info_datZ) rfl ?_
              have HO2 := own_strsF (HI.out.own.setRow (b := w.heap.size + 1) (by omega) #[.int .i64 z, .slice (some ⟨b, 0, none⟩) (npt z) (npt z)])
              rw [hWL.out, HO.out] at HO2
              exact fwPost_ok F.out HT.out HZ.out HO2 (below_setRow HI.out.below (by omega) _)
  · have F := Lib.hid (fw_dat (a := a) (t := t) hd)
    have hE2 : (datE sz ps != 0) = true := bne_iff_ne.2 hd
    have HD := Lib.hid hd
    clear hd
    generalize datE sz ps = E at *
    go_enter Try.func20, Try.ntmps20
    go_wp2_with (first
      | (go_at_call 15; rw [← HWA.out]; refine HCk.out.mono ?_; rintro e w1 ⟨rfl, hb1⟩; have I1 := Lib.hid (I0.out.go hb1))
      | (refine wpList_store_rowTo rfl _ _ _ rfl rfl (w.heap.size + 1) zeroDaZ rfl rfl 24 zeroDaZ I1.out.res info_datZ rfl hone0.out ?_))
    refine bodyPost_ret (results_cell_tmp_row rfl _ _ (w.heap.size + 1) _ zeroDaZ (0, 0) _ rfl (row_set I1.out.res) Try.underlying24 rfl info_datZ) rfl ?_
    exact fwPost_bad F.out HD.out (below_setRow I1.out.below (by omega) _)
end Go.Proofs.Ytfhgglghofhndaa
