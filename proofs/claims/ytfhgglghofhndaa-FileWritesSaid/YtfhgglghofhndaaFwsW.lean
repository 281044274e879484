/- linenref.FileWrite, walked. -/
import Derived.Test.YtfhgglghofhndaaFwrR
namespace Go.Proofs.Ytfhgglghofhndaa
open Go.RowKit Go.PlainAid

/-- The boxes, whatever lies in the result's. -/
structure FvK (w : World) (sz a : Int) (t : ByteArray) (A : Option Addr) (m c : Nat) (W : World) : Prop where
  box : W.heap[w.heap.size]? = some (.cells #[.int .i64 sz, .slice A m c] 24 (0, 0))
  ab : W.heap[w.heap.size + 1]? = some (.cells #[.int .i64 a] 3 (0, 0))
  tb : W.heap[w.heap.size + 2]? = some (.cells #[.string t] 9 (0, 0))
  res : ∃ u v, W.heap[w.heap.size + 3]? = some (.cells #[u, v] 24 (0, 0))
  below : Below w.heap.size w W
  size : w.heap.size + 4 ≤ W.heap.size
section
variable {w W W' : World} {k a' : Int} {t : ByteArray} {A : Option Addr} {m c : Nat}
theorem FvI.kk (h : FvI w k a' t A m c W) : FvK w k a' t A m c W := ⟨h.box, h.ab, h.tb, ⟨_, _, h.res⟩, h.below, h.size⟩
theorem FvK.go (h : FvK w k a' t A m c W) (hb : Below W.heap.size W W') : FvK w k a' t A m c W' := by
  obtain ⟨u, v, hr⟩ := h.res
  exact { box := row_below h.box (row_lt h.box) hb, ab := row_below h.ab (row_lt h.ab) hb, tb := row_below h.tb (row_lt h.tb) hb, res := ⟨u, v, row_below hr (row_lt hr) hb⟩, below := h.below.trans (hb.mono h.below.size), size := Nat.le_trans h.size hb.size }
theorem FvK.set (h : FvK w k a' t A m c W) (x y : Value) : FvK w k a' t A m c ((W.setCell ⟨w.heap.size + 3, 0, none⟩ x).setCell ⟨w.heap.size + 3, 1, none⟩ y) := by
  obtain ⟨u, v, hr⟩ := h.res
  have hr2 := row_store (j := 1) (v := y) (row_store (j := 0) (v := x) hr)
  refine { box := row_other (row_other h.box (by simp)) (by simp), ab := row_other (row_other h.ab (by simp)) (by simp), tb := row_other (row_other h.tb (by simp)) (by simp), res := ⟨x, y, by simpa using hr2⟩, below := ?_, size := by simp [World.setCell]; exact h.size }
  exact (h.below.setCell (p := ⟨w.heap.size + 3, 0, none⟩) (by show _ ≤ w.heap.size + 3; omega) _).setCell (p := ⟨w.heap.size + 3, 1, none⟩) (by show _ ≤ w.heap.size + 3; omega) _
theorem FvK.cells (h : FvK w k a' t A m c W) : W.cell? ⟨w.heap.size, 0, none⟩ = some (.int .i64 k) ∧ W.cell? ⟨w.heap.size, 1, none⟩ = some (.slice A m c) ∧ W.cell? ⟨w.heap.size + 1, 0, none⟩ = some (.int .i64 a') ∧ W.cell? ⟨w.heap.size + 2, 0, none⟩ = some (.string t) := ⟨row_cell h.box 0, row_cell h.box 1, row_cell h.ab 0, row_cell h.tb 0⟩
theorem FvK.res4 (h : FvK w k a' t A m c W) : ∃ u v, W.cell? ⟨w.heap.size + 3, 0, none⟩ = some u ∧ W.cell? ⟨w.heap.size + 3, 1, none⟩ = some v ∧ W.frozen? ⟨w.heap.size + 3, 0, none⟩ = false ∧ W.frozen? ⟨w.heap.size + 3, 1, none⟩ = false := by
  obtain ⟨u, v, hr⟩ := h.res
  exact ⟨u, v, row_cell hr 0, row_cell hr 1, row_cold hr 0, row_cold hr 1⟩
abbrev FvS (w : World) (k a' : Int) (t : ByteArray) (A : Option Addr) (m c : Nat) (W : World) : Prop := W.cell? ⟨w.heap.size, 0, none⟩ = some (.int .i64 k) ∧ W.cell? ⟨w.heap.size, 1, none⟩ = some (.slice A m c) ∧ W.cell? ⟨w.heap.size + 1, 0, none⟩ = some (.int .i64 a') ∧ W.cell? ⟨w.heap.size + 2, 0, none⟩ = some (.string t) ∧ FvK w k a' t A m c W
theorem fvS_of (h : FvK w k a' t A m c W) : FvS w k a' t A m c W := ⟨h.cells.1, h.cells.2.1, h.cells.2.2.1, h.cells.2.2.2, h⟩
theorem fvS_go (h : FvS w k a' t A m c W) (hb : Below W.heap.size W W') : FvS w k a' t A m c W' := fvS_of (h.2.2.2.2.go hb)
theorem fvS_drew (h : FvS w k a' t A m c W) : FvS w k a' t A m c W.drew := fvS_go h ((Below.refl _ _).drew)
theorem fvS_set {x y : Value} (h : FvS w k a' t A m c W) : FvS w k a' t A m c ((W.setCell ⟨w.heap.size + 1 + 1 + 1, 0, none⟩ x).setCell ⟨w.heap.size + 1 + 1 + 1, 1, none⟩ y) := fvS_of (h.2.2.2.2.set x y)
theorem fvS_below (h : FvS w k a' t A m c W) : Below w.heap.size w W := h.2.2.2.2.below
theorem fvS_i (h : FvS w k a' t A m c W) : FvK w k a' t A m c W := h.2.2.2.2
end
set_option maxRecDepth 20000 in
set_option maxHeartbeats 4000000 in
theorem rwrite_any (sz : Int) (A : Option Addr) (m c : Nat) (ps : List ByteArray) (a : Int) (t : ByteArray) (w : World) (r : RowsIn w w.heap.size A m c (fun z => [.string z]) 1 ps) :
    Calls Try.prog 21 #[.agg #[.int .i64 sz, .slice A m c], .int .i64 a, .string t] w (FwPost sz a t ps w) := by
  obtain ⟨wa, hwa⟩ : ∃ wa, wa = (((w.alloc (.cells #[.int .i64 sz, .slice A m c] 24)).alloc (.cells #[.int .i64 a] 3)).alloc (.cells #[.string t] 9)).alloc (.cells zeroDaZ 24) := ⟨_, rfl⟩
  have I0 : Hid (FvI w sz a t A m c wa) := by rw [hwa]; exact fvI_new w sz a t A m c
  have R : Hid (∀ W, Below w.heap.size w W → RowsIn W W.heap.size A m c (fun z => [.string z]) 1 ps) := fun W h => (r.below h).more h.size
  have HCk := Lib.hid (rdata_any sz A m c ps wa (R.out wa I0.out.below))
  obtain ⟨c0, c1, c2, c3⟩ := I0.out.cells
  have HWA := Lib.hid hwa
  have hone0 : Hid ((zeroDaZ : Array Value).all (·.oneCell') = true) := by simp [Hid, zeroDaZ, Value.oneCell']
  clear r hwa
  by_cases hd : datE sz ps = 0
  · obtain ⟨⟨z0, z1⟩, hok⟩ := datE_zero hd
    rw [hd] at HCk
    by_cases hn : a < 0
    · have F := Lib.hid (fw_arg (t := t) hd hn)
      clear hd hok
      go_enter Try.func21, Try.ntmps21
      go_wp2_with (first
        | (go_at_call 16; rw [← HWA.out]; refine HCk.out.mono ?_; rintro e w1 ⟨rfl, hb1⟩; have I1 := Lib.hid (I0.out.go hb1); obtain ⟨k0, k1, k2, k3⟩ := I1.out.cells)
        | (refine wpList_store_rowTo rfl _ _ _ rfl rfl (w.heap.size + 3) zeroDaZ rfl rfl 24 zeroDaZ I1.out.res info_datZ rfl hone0.out ?_))
      refine bodyPost_ret (results_cell_tmp_row rfl _ _ (w.heap.size + 3) _ zeroDaZ (0, 0) _ rfl (row_set I1.out.res) Try.underlying24 rfl info_datZ) rfl ?_
      exact fwPost_bad F.out (by decide) (below_setRow I1.out.below (by omega) _)
    · by_cases ht : t.size = 0
      · have F := Lib.hid (fw_nil hd hn ht)
        obtain rfl : t = ⟨#[]⟩ := by
          have := size_zero ht; exact this
        have hone : Hid ((#[.int .i64 sz, .slice A m c] : Array Value).all (·.oneCell') = true) := hone2 _ _ _ _
        clear hd hok
        go_enter Try.func21, Try.ntmps21
        go_wp2_with (first
          | (go_at_call 16; rw [← HWA.out]; refine HCk.out.mono ?_; rintro e w1 ⟨rfl, hb1⟩; have I1 := Lib.hid (I0.out.go hb1); obtain ⟨k0, k1, k2, k3⟩ := I1.out.cells)
          | (refine wpList_store_rowTo rfl _ _ _ rfl rfl (w.heap.size + 3) #[.int .i64 sz, .slice A m c] rfl rfl 24 zeroDaZ I1.out.res info_datZ rfl hone.out ?_))
        refine bodyPost_ret (results_cell_tmp_row rfl _ _ (w.heap.size + 3) _ #[.int .i64 sz, .slice A m c] (0, 0) _ rfl (row_set I1.out.res) Try.underlying24 rfl info_datZ) rfl ?_
        have hbf := below_setRow I1.out.below (show w.heap.size ≤ w.heap.size + 3 by omega) #[.int .i64 sz, .slice A m c]
        exact fwPost_nil F.out rfl (R.out _ hbf) hbf
      · have hne := emp_ne ht
        have hne2 := emp_ne2 ht
        have hne3 := emp_ne3 ht
        by_cases hl : 4096 < (t.size : Int) ∨ 4096 - (t.size : Int) < a
        · have F := Lib.hid (fw_large hd hn ht hl)
          clear hd hok
          rcases (show 4096 < (t.size : Int) ∨ (¬ 4096 < (t.size : Int) ∧ 4096 - (t.size : Int) < a) by omega) with j1 | ⟨j1, j2⟩
          · go_enter Try.func21, Try.ntmps21
            go_wp2_with (first
              | (go_at_call 16; rw [← HWA.out]; refine HCk.out.mono ?_; rintro e w1 ⟨rfl, hb1⟩; have I1 := Lib.hid (I0.out.go hb1); obtain ⟨k0, k1, k2, k3⟩ := I1.out.cells)
              | (refine wpList_store_rowTo rfl _ _ _ rfl rfl (w.heap.size + 3) zeroDaZ rfl rfl 24 zeroDaZ I1.out.res info_datZ rfl hone0.out ?_))
            refine bodyPost_ret (results_cell_tmp_row rfl _ _ (w.heap.size + 3) _ zeroDaZ (0, 0) _ rfl (row_set I1.out.res) Try.underlying24 rfl info_datZ) rfl ?_
            exact fwPost_bad F.out (by decide) (below_setRow I1.out.below (by omega) _)
          · go_enter Try.func21, Try.ntmps21
            go_wp2_with (first
              | (go_at_call 16; rw [← HWA.out]; refine HCk.out.mono ?_; rintro e w1 ⟨rfl, hb1⟩; have I1 := Lib.hid (I0.out.go hb1); obtain ⟨k0, k1, k2, k3⟩ := I1.out.cells)
              | (refine wpList_store_rowTo rfl _ _ _ rfl rfl (w.heap.size + 3) zeroDaZ rfl rfl 24 zeroDaZ I1.out.res info_datZ rfl hone0.out ?_))
            refine bodyPost_ret (results_cell_tmp_row rfl _ _ (w.heap.size + 3) _ zeroDaZ (0, 0) _ rfl (row_set I1.out.res) Try.underlying24 rfl info_datZ) rfl ?_
            exact fwPost_bad F.out (by decide) (below_setRow I1.out.below (by omega) _)
        · have F := Lib.hid (fw_ok hd hn ht hl)
          have j1 : ¬ 4096 < (t.size : Int) := by omega
          have j2 : ¬ 4096 - (t.size : Int) < a := by omega
          have HTZ := Lib.hid ht
          obtain ⟨k, rfl⟩ : ∃ k : Nat, sz = (k : Int) := ⟨sz.toNat, by omega⟩
          obtain ⟨a', rfl⟩ : ∃ k : Nat, a = (k : Int) := ⟨a.toNat, by omega⟩
          have hW : (whB k 0 ps).length = k := whole_len hok
          obtain ⟨z, hz⟩ : ∃ z, z = max k (a' + t.size) := ⟨_, rfl⟩
          have HZ := Lib.hid hz
          have hz4 : z ≤ 4096 := by omega
          obtain ⟨O, hO⟩ : ∃ O, O = ovl (szd (whB k 0 ps) z) a' (bl t) := ⟨_, rfl⟩
          have hOl : O.length = z := by rw [hO, ovl_len (by rw [szd_len, bl_len]; omega), szd_len]
          have HBY : Hid (∀ W, Below w.heap.size w W → Calls Try.prog 50 #[.agg #[.int .i64 k, .slice A m c]] W fun e w' => e = .returned (.string (mkS (whB k 0 ps))) ∧ Below W.heap.size W w') := fun W h => bytes_any k A m c ps W (R.out W h) (by omega) hok
          have HOV : Hid (∀ W, Calls Try.prog 58 #[.string (mkS (whB k 0 ps)), .int .i64 a', .string t] W fun e w' => e = .returned (.string (mkS O)) ∧ Below W.heap.size W w') := fun W => by
            have := over_any (whB k 0 ps) (bl t) a' (by omega) (by rw [bl_len]; omega) (by omega) W
            rw [mk_bl, bl_len, hW, ← hz, ← hO] at this
            exact this.mono fun _ _ h => ⟨h.1, by rw [h.2]; exact Below.refl _ _⟩
          have HPT : Hid (∀ W, FvK w k a' t A m c W → Calls Try.prog 55 #[.string (mkS O), .func (.func 59) #[] #[.pointer (some ⟨w.heap.size, 0, none⟩), .pointer (some ⟨w.heap.size + 1, 0, none⟩), .pointer (some ⟨w.heap.size + 2, 0, none⟩)]] W fun e w' => ∃ b : Option Addr × Nat, e = .returned (.agg #[.int .i64 z, .slice b.1 (npt z) b.2]) ∧ (Owns w' (w.heap.size + 4) 1 (.slice b.1 (npt z) b.2) (npt z) ((wrL ps O z a' t.size).map Value.string) ∧ Below W.heap.size W w')) := fun W hI => by
            have hsz : (mkS O).size = z := by rw [mk_size, hOl]
            have hh : Holes 59 #[.pointer (some ⟨w.heap.size, 0, none⟩), .pointer (some ⟨w.heap.size + 1, 0, none⟩), .pointer (some ⟨w.heap.size + 2, 0, none⟩)] W.heap.size W (npt (mkS O).size) (wrH ps a' t.size) := fun i W2 hi hb => by
              have I2 := hI.go hb
              obtain ⟨q0, q1, q2, q3⟩ := I2.cells
              exact (wrhole_any w.heap.size (w.heap.size + 1) (w.heap.size + 2) A m c ps a' t W2.heap.size i (by rw [hsz] at hi; unfold npt at hi; omega) (by omega) (by omega) W2 q1 q2 q3 (R.out W2 I2.below)).mono fun _ _ h => ⟨h.1, by rw [h.2]; exact Below.refl _ _⟩
            have := parted_any 59 _ (wrH ps a' t.size) (mkS O) (by rw [hsz]; omega) W.heap.size W (Nat.le_refl _) W (Below.refl _ _) hh cf_wr
            have he := wr_same (T := bl t) (a := a') (z := z) (ps := ps) (sz := k) hok (by rw [bl_len]; exact hz)
            rw [bl_len, ← hO] at he
            rw [hsz, he] at this
            exact this.mono fun _ _ ⟨D, d, h1, h2, h3⟩ => ⟨(D, d), h1, h2.more hI.size, h3⟩
          have HO := Lib.hid hO
          clear hd hok hW hl hn ht hO hOl hz z0 z1 hz4
          generalize hSO : mkS O = SO at *
          generalize mkS (whB k 0 ps) = WB at *
          clear hSO
          go_enter Try.func21, Try.ntmps21
          go_upto_region 10 with (go_at_call 16; rw [← HWA.out]; refine HCk.out.mono ?_; rintro e w1 ⟨rfl, hb1⟩; have I1 := Lib.hid (I0.out.go hb1); obtain ⟨k0, k1, k2, k3⟩ := I1.out.cells)
          have hS : w1.cell? ⟨w.heap.size, 0, none⟩ = some (.int .i64 k) ∧ w1.cell? ⟨w.heap.size, 1, none⟩ = some (.slice A m c) ∧ w1.cell? ⟨w.heap.size + 1, 0, none⟩ = some (.int .i64 a') ∧ w1.cell? ⟨w.heap.size + 2, 0, none⟩ = some (.string t) ∧ FvK w k a' t A m c w1 := ⟨k0, k1, k2, k3, I1.out.kk⟩
          go_region_held3 (fun W => W.cell? ⟨w.heap.size, 0, none⟩ = some (.int .i64 k) ∧ W.cell? ⟨w.heap.size, 1, none⟩ = some (.slice A m c) ∧ W.cell? ⟨w.heap.size + 1, 0, none⟩ = some (.int .i64 a') ∧ W.cell? ⟨w.heap.size + 2, 0, none⟩ = some (.string t) ∧ FvK w k a' t A m c W)
            (first | assumption | exact fvS_drew (by assumption) | exact fvS_go (by assumption) (by assumption) | exact fvS_set (by assumption))
            (first
              | (go_at_call 50; refine (HBY.out _ (fvS_below (by assumption))).mono ?_; rintro e w' ⟨rfl, hb⟩)
              | (go_at_call 58; refine (HOV.out _).mono ?_; rintro e w' ⟨rfl, hb⟩)
              | (go_at_call 55; refine (HPT.out _ (fvS_i (by assumption))).mono ?_; rintro e w' ⟨b, rfl, ho, hb⟩; have HK3 := Lib.hid (fvS_go (by assumption) hb).2.2.2.2; obtain ⟨u0, v0, r0, r1, r2, r3⟩ := HK3.out.res4))
          all_goals
            go_wp2
            obtain ⟨x0, y0, hr⟩ := HK3.out.res
            have hr2 := row_store (j := 1) (v := .slice b.1 (npt z) b.2) (row_store (j := 0) (v := .int .i64 z) hr)
            refine bodyPost_ret (results_cell_tmp_row rfl _ _ (w.heap.size + 3) _ #[.int .i64 z, .slice b.1 (npt z) b.2] (0, 0) _ rfl (by simpa using hr2) Try.underlying24 rfl info_datZ) rfl ?_
            have hB := (fvS_i (by assumption)).below
            have HO2 := own_strsF ((ho.setOther (p := ⟨w.heap.size + 3, 0, none⟩) (fun e => by have h5 : w.heap.size + 4 ≤ w.heap.size + 3 := (ho.lt _ e).1; omega) (.int .i64 z)).setOther (p := ⟨w.heap.size + 3, 1, none⟩) (fun e => by have h5 : w.heap.size + 4 ≤ w.heap.size + 3 := (ho.lt _ e).1; omega) (.slice b.1 (npt z) b.2))
            rw [HO.out] at HO2
            exact fwPost_ok F.out HTZ.out HZ.out HO2 hB
  · have F := Lib.hid (fw_dat (a := a) (t := t) hd)
    have hE2 : (datE sz ps != 0) = true := bne_iff_ne.2 hd
    have HD := Lib.hid hd
    clear hd
    generalize datE sz ps = E at *
    go_enter Try.func21, Try.ntmps21
    go_wp2_with (first
      | (go_at_call 16; rw [← HWA.out]; refine HCk.out.mono ?_; rintro e w1 ⟨rfl, hb1⟩; have I1 := Lib.hid (I0.out.go hb1))
      | (refine wpList_store_rowTo rfl _ _ _ rfl rfl (w.heap.size + 3) zeroDaZ rfl rfl 24 zeroDaZ I1.out.res info_datZ rfl hone0.out ?_))
    refine bodyPost_ret (results_cell_tmp_row rfl _ _ (w.heap.size + 3) _ zeroDaZ (0, 0) _ rfl (row_set I1.out.res) Try.underlying24 rfl info_datZ) rfl ?_
    exact fwPost_bad F.out HD.out (below_setRow I1.out.below (by omega) _)
end Go.Proofs.Ytfhgglghofhndaa
