/- linenref.FileCut, walked. -/
import Derived.Test.YtfhgglghofhndaaFcuW
import Derived.Test.YtfhgglghofhndaaFptdW
import Derived.Test.YtfhgglghofhndaaFreadW
namespace Go.Proofs.Ytfhgglghofhndaa
open Go.RowKit Go.PlainAid

theorem cf_cut : ∀ (args : Array Value) (W : World), (callFunc 57 args).run Try.prog W = .ok (.enter 57 args) W := fun args W => by kernel_rfl
set_option maxRecDepth 20000 in
set_option maxHeartbeats 2000000 in
theorem rcut_any (sz : Int) (A : Option Addr) (m c : Nat) (ps : List ByteArray) (n : Int) (w : World) (r : RowsIn w w.heap.size A m c (fun z => [.string z]) 1 ps) :
    Calls Try.prog 18 #[.agg #[.int .i64 sz, .slice A m c], .int .i64 n] w (FcPost sz n ps w) := by
  obtain ⟨wa, hwa⟩ : ∃ wa, wa = (w.alloc (.cells #[.int .i64 sz, .slice A m c] 24)).alloc (.cells zeroDaZ 24) := ⟨_, rfl⟩
  have I0 : Hid (FcI w sz A m c wa) := by rw [hwa]; exact fcI_new w sz A m c
  have R : Hid (∀ W, Below w.heap.size w W → RowsIn W W.heap.size A m c (fun z => [.string z]) 1 ps) := fun W h => (r.below h).more h.size
  have HCk := Lib.hid (rdata_any sz A m c ps wa (R.out wa I0.out.below))
  have c0 : wa.cell? ⟨w.heap.size, 0, none⟩ = some (.int .i64 sz) := row_cell I0.out.box 0
  have c1 : wa.cell? ⟨w.heap.size, 1, none⟩ = some (.slice A m c) := row_cell I0.out.box 1
  have HWA := Lib.hid hwa
  have hone0 : Hid ((zeroDaZ : Array Value).all (·.oneCell') = true) := by simp [Hid, zeroDaZ, Value.oneCell']
  clear r hwa
  by_cases hd : datE sz ps = 0
  · obtain ⟨⟨z0, z1⟩, hok⟩ := datE_zero hd
    rw [hd] at HCk
    by_cases hn : n < 0
    · have F := Lib.hid (fc_arg hd hn)
      clear hd hok
      go_enter Try.func18, Try.ntmps18
      go_wp2_with (first
        | (go_at_call 16; rw [← HWA.out]; refine HCk.out.mono ?_; rintro e w1 ⟨rfl, hb1⟩; have I1 := Lib.hid (I0.out.go hb1))
        | (refine wpList_store_rowTo rfl _ _ _ rfl rfl (w.heap.size + 1) zeroDaZ rfl rfl 24 zeroDaZ I1.out.res info_datZ rfl hone0.out ?_))
      refine bodyPost_ret (results_cell_tmp_row rfl _ _ (w.heap.size + 1) _ zeroDaZ (0, 0) _ rfl (row_set I1.out.res) Try.underlying24 rfl info_datZ) rfl ?_
      exact fcPost_bad F.out (by decide) (below_setRow I1.out.below (by omega) _)
    · by_cases hn2 : 4096 < n
      · have F := Lib.hid (fc_large hd hn hn2)
        clear hd hok
        go_enter Try.func18, Try.ntmps18
        go_wp2_with (first
          | (go_at_call 16; rw [← HWA.out]; refine HCk.out.mono ?_; rintro e w1 ⟨rfl, hb1⟩; have I1 := Lib.hid (I0.out.go hb1))
          | (refine wpList_store_rowTo rfl _ _ _ rfl rfl (w.heap.size + 1) zeroDaZ rfl rfl 24 zeroDaZ I1.out.res info_datZ rfl hone0.out ?_))
        refine bodyPost_ret (results_cell_tmp_row rfl _ _ (w.heap.size + 1) _ zeroDaZ (0, 0) _ rfl (row_set I1.out.res) Try.underlying24 rfl info_datZ) rfl ?_
        exact fcPost_bad F.out (by decide) (below_setRow I1.out.below (by omega) _)
      · have F := Lib.hid (fc_ok hd hn hn2)
        obtain ⟨k, rfl⟩ : ∃ k : Nat, sz = (k : Int) := ⟨sz.toNat, by omega⟩
        obtain ⟨n', rfl⟩ : ∃ k : Nat, n = (k : Int) := ⟨n.toNat, by omega⟩
        have hW : (whB k 0 ps).length = k := whole_len hok
        have HBY : Hid (∀ W, Below w.heap.size w W → Calls Try.prog 50 #[.agg #[.int .i64 k, .slice A m c]] W fun e w' => e = .returned (.string (mkS (whB k 0 ps))) ∧ Below W.heap.size W w') := fun W h => bytes_any k A m c ps W (R.out W h) (by omega) hok
        have HSZ : Hid (∀ W, Calls Try.prog 56 #[.string (mkS (whB k 0 ps)), .int .i64 n'] W fun e w' => e = .returned (.string (mkS (szd (whB k 0 ps) n'))) ∧ w' = W) := rsized_any (whB k 0 ps) n' (by omega) (by omega)
        have hcz : (mkS (szd (whB k 0 ps) n')).size = n' := by rw [mk_size, szd_len]
        have HPT : Hid (∀ W, FcI w k A m c W → Calls Try.prog 55 #[.string (mkS (szd (whB k 0 ps) n')), .func (.func 57) #[] #[.pointer (some ⟨w.heap.size, 0, none⟩)]] W fun e w' => ∃ b : Option Addr × Nat, e = .returned (.agg #[.int .i64 n', .slice b.1 (npt n') b.2]) ∧ Owns w' W.heap.size 1 (.slice b.1 (npt n') b.2) (npt n') ((cutL ps n').map Value.string) ∧ Below W.heap.size W w') := fun W hI => by
          have hh : Holes 57 #[.pointer (some ⟨w.heap.size, 0, none⟩)] W.heap.size W (npt (mkS (szd (whB k 0 ps) n')).size) (cutH ps) := fun i W2 _ hb => by
            have I2 := hI.go hb
            exact (cuthole_any w.heap.size k A m c ps W2.heap.size i W2 (row_cell I2.box 1) (R.out W2 I2.below)).mono fun _ _ h => ⟨h.1, by rw [h.2]; exact Below.refl _ _⟩
          have := parted_any 57 #[.pointer (some ⟨w.heap.size, 0, none⟩)] (cutH ps) (mkS (szd (whB k 0 ps) n')) (by rw [hcz]; omega) W.heap.size W (Nat.le_refl _) W (Below.refl _ _) hh cf_cut
          rw [hcz, cut_same (k := k) (n := n') hok] at this
          exact this.mono fun _ _ ⟨D, d, h1, h2, h3⟩ => ⟨(D, d), h1, h2, h3⟩
        clear hd hok hW hcz
        generalize mkS (szd (whB k 0 ps) n') = SZ at *
        generalize mkS (whB k 0 ps) = WB at *
        go_enter Try.func18, Try.ntmps18
        go_wp2_with (first
          | (go_at_call 16; rw [← HWA.out]; refine HCk.out.mono ?_; rintro e w1 ⟨rfl, hb1⟩; have I1 := Lib.hid (I0.out.go hb1); have k0 := row_cell I1.out.box 0; have k1 := row_cell I1.out.box 1)
          | (go_at_call 50; refine (HBY.out _ I1.out.below).mono ?_; rintro e w2 ⟨rfl, hb2⟩; have I2 := Lib.hid (I1.out.go hb2); clear hb2)
          | (go_at_call 56; refine (HSZ.out _).mono ?_; rintro e w' ⟨rfl, hw'⟩; rw [hw']; clear hw')
          | (go_at_call 55; refine (HPT.out _ I2.out).mono ?_; rintro e w3 ⟨b, rfl, ho3, hb3⟩; have I3 := Lib.hid (I2.out.go hb3); have HO3 := Lib.hid ho3; have hone : Hid ((#[.int .i64 n', .slice b.1 (npt n') b.2] : Array Value).all (·.oneCell') = true) := hone2 _ _ _ _; clear hb3 ho3)
          | (refine wpList_store_rowTo rfl _ _ _ rfl rfl (w.heap.size + 1) #[.int .i64 n', .slice b.1 (npt n') b.2] rfl rfl 24 zeroDaZ I3.out.res info_datZ rfl hone.out ?_))
        refine bodyPost_ret (results_cell_tmp_row rfl _ _ (w.heap.size + 1) _ #[.int .i64 n', .slice b.1 (npt n') b.2] (0, 0) _ rfl (row_set I3.out.res) Try.underlying24 rfl info_datZ) rfl ?_
        exact fcPost_ok F.out (own_strsF (HO3.out.setRow (by have := I2.out.size; omega) _)) (below_setRow I3.out.below (by omega) _)
  · have F := Lib.hid (fc_dat (n := n) hd)
    have hE2 : (datE sz ps != 0) = true := bne_iff_ne.2 hd
    have HD := Lib.hid hd
    clear hd
    generalize datE sz ps = E at *
    go_enter Try.func18, Try.ntmps18
    go_wp2_with (first
      | (go_at_call 16; rw [← HWA.out]; refine HCk.out.mono ?_; rintro e w1 ⟨rfl, hb1⟩; have I1 := Lib.hid (I0.out.go hb1))
      | (refine wpList_store_rowTo rfl _ _ _ rfl rfl (w.heap.size + 1) zeroDaZ rfl rfl 24 zeroDaZ I1.out.res info_datZ rfl hone0.out ?_))
    refine bodyPost_ret (results_cell_tmp_row rfl _ _ (w.heap.size + 1) _ zeroDaZ (0, 0) _ rfl (row_set I1.out.res) Try.underlying24 rfl info_datZ) rfl ?_
    exact fcPost_bad F.out HD.out (below_setRow I1.out.below (by omega) _)
end Go.Proofs.Ytfhgglghofhndaa
