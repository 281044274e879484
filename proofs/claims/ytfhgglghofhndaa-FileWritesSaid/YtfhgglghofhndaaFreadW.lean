/- linenref.Bytes, file.Read and linenref.FileRead, walked. -/
import Derived.Test.YtfhgglghofhndaaFwhW
import Derived.Test.YtfhgglghofhndaaStep
namespace Go.Proofs.Ytfhgglghofhndaa
open Go.RowKit Go.PlainAid

set_option maxRecDepth 20000 in
set_option maxHeartbeats 1000000 in
theorem bytes_any (k : Nat) (A : Option Addr) (n c : Nat) (ps : List ByteArray) (w : World) (r : RowsIn w w.heap.size A n c (fun z => [.string z]) 1 ps) (hk : k ≤ 4096) (hok : PartsOk k ps) :
    Calls Try.prog 50 #[.agg #[.int .i64 k, .slice A n c]] w fun e w' => e = .returned (.string (mkS (whB k 0 ps))) ∧ Below w.heap.size w w' := by
  have hn := r.len
  subst hn
  obtain ⟨wa, hwa⟩ : ∃ wa, wa = w.alloc (.cells #[.int .i64 k, .slice A ps.length c] 24) := ⟨_, rfl⟩
  have hba : Below w.heap.size w wa := by rw [hwa]; exact (Below.refl _ _).alloc (Nat.le_refl _) _
  have hrb : wa.heap[w.heap.size]? = some (.cells #[.int .i64 k, .slice A ps.length c] 24 (0, 0)) := by rw [hwa]; exact heap_alloc_new w _
  obtain ⟨c0, c1⟩ := dat_cells hrb
  have R := Lib.hid (r.below hba)
  have HWA := Lib.hid hwa
  have HBA := Lib.hid hba
  have HOK := Lib.hid hok
  have hpl : ps.length ≤ 8 := by rw [hok.1]; unfold npt; omega
  have HTL : Hid ((whB k 0 ps).length = k) := whole_len hok
  have HK := Lib.hid hk
  clear r hba hrb hwa hok hk
  go_enter Try.func50, Try.ntmps50
  go_wp2
  rw [← HWA.out]
  go_loop [3, 9] (fun v3 v9 => ∃ i : Nat, i ≤ ps.length ∧ v9 = .int .i64 i ∧ v3 = .string (mkS (whB k 0 (ps.take i)))) (fun _ v9 => ps.length - (intOf v9).toNat)
  case atStart => exact ⟨0, Nat.zero_le _, rfl, rfl⟩
  case round =>
    obtain ⟨i, hi, rfl, rfl⟩ := hrel
    by_cases hlt : i < ps.length
    · obtain ⟨p, e1⟩ : ∃ p, ps[i]? = some p := ⟨_, List.getElem?_eq_getElem hlt⟩
      have HS := Lib.hid (whB_step (k := k) e1)
      have HP := Lib.hid (whB_pre (k := k) (i := i + 1) (ps := ps))
      obtain ⟨b, o, rfl, hbB, hc⟩ := R.out.one e1
      have hil : (i : Int) < (ps.length : Int) := by omega
      have HC : Hid (∀ (t : ByteArray), bl t = ptB k i p → ∀ W, (Op.stringOp .add (mkS (whB k 0 (ps.take i))) t).run Try.prog W = .ok (.string (mkS (whB k 0 (ps.take (i + 1))))) W) := fun t ht W => by
        rw [HS.out, ← ht]
        refine cat_mk _ t ?_ W
        rw [← bl_len t, ht]
        have h1 := HP.out
        rw [HS.out, List.length_append, HTL.out] at h1
        have := HK.out
        omega
      have HLO := Lib.hid (width_any k i (by have := HK.out; omega) (by omega))
      have HNW : Hid (wid k i ≤ 512) := wid_le k i
      clear e1
      by_cases hp : p.size = 0
      · obtain rfl : p = ⟨#[]⟩ := by
          have := size_zero hp; exact this
        have hcat := HC.out (mkS (zer (wid k i))) rfl
        have HZ := Lib.hid (zeros_any (wid k i) (by have := HNW.out; omega))
        clear hp
        generalize hWW : wid k i = WW at *
        clear hWW
        generalize whB k 0 (ps.take i) = X at *
        go_wp2_with (first
          | (go_at_call 53; refine (HLO.out _).mono ?_; rintro e w' ⟨rfl, hw'⟩; rw [hw']; clear hw')
          | (go_at_call 87; refine (HZ.out _).mono ?_; rintro e w' ⟨rfl, hw'⟩; rw [hw']; clear hw'))
        go_round
        case rel => exact ⟨i + 1, by omega, by go_num, rfl⟩
        case measure => (simp [intOf]; try omega)
      · have hne := emp_ne hp
        have hne2 := emp_ne2 hp
        have hne3 := emp_ne3 hp
        have hcat := HC.out p (by unfold ptB; rw [if_neg hp])
        clear hp
        generalize whB k 0 (ps.take i) = X at *
        go_wp2
        go_round
        case rel => exact ⟨i + 1, by omega, by go_num, rfl⟩
        case measure => (simp [intOf]; try omega)
    · obtain rfl : i = ps.length := by omega
      have hil : ¬ (ps.length : Int) < (ps.length : Int) := by omega
      go_wp2
      go_ret
      exact ⟨rfl, HBA.out⟩

/-- What reading a file says. -/
noncomputable def frE (sz a n : Int) (ps : List ByteArray) : Int := if datE sz ps ≠ 0 then datE sz ps else if a < 0 ∨ n < 0 then 1 else 0
noncomputable def frS (sz a n : Int) (ps : List ByteArray) : ByteArray := if frE sz a n ps = 0 then mkS (((whB sz.toNat 0 ps).drop a.toNat).take n.toNat) else mkS []
theorem fr_dat {sz a n : Int} {ps : List ByteArray} (h : datE sz ps ≠ 0) : frE sz a n ps = datE sz ps ∧ frS sz a n ps = ⟨#[]⟩ := by
  have e : frE sz a n ps = datE sz ps := if_pos h
  exact ⟨e, by unfold frS; rw [if_neg (by rw [e]; exact h)]; rfl⟩
theorem fr_arg {sz a n : Int} {ps : List ByteArray} (h : datE sz ps = 0) (h2 : a < 0 ∨ n < 0) : frE sz a n ps = 1 ∧ frS sz a n ps = ⟨#[]⟩ := by
  have e : frE sz a n ps = 1 := by unfold frE; rw [if_neg (by rw [h]; decide), if_pos h2]
  exact ⟨e, by unfold frS; rw [if_neg (by rw [e]; decide)]; rfl⟩
theorem fr_ok {k a n : Nat} {ps : List ByteArray} (h : datE k ps = 0) : frE k a n ps = 0 ∧ frS k a n ps = mkS (((whB k 0 ps).drop a).take n) := by
  have e : frE k a n ps = 0 := by unfold frE; rw [if_neg (by rw [h]; decide), if_neg (by omega)]
  exact ⟨e, by unfold frS; rw [if_pos e]; rfl⟩
def FrPost (sz a n : Int) (ps : List ByteArray) (w : World) (e : Ending) (w' : World) : Prop := e = .returned (.tuple #[.string (frS sz a n ps), .int .i64 (frE sz a n ps)]) ∧ Below w.heap.size w w'

set_option maxRecDepth 20000 in
set_option maxHeartbeats 1000000 in
theorem rread_any (sz : Int) (A : Option Addr) (m c : Nat) (ps : List ByteArray) (a n : Int) (w : World) (r : RowsIn w w.heap.size A m c (fun z => [.string z]) 1 ps) :
    Calls Try.prog 14 #[.agg #[.int .i64 sz, .slice A m c], .int .i64 a, .int .i64 n] w (FrPost sz a n ps w) := by
  obtain ⟨wa, hwa⟩ : ∃ wa, wa = w.alloc (.cells #[.int .i64 sz, .slice A m c] 24) := ⟨_, rfl⟩
  have hba : Below w.heap.size w wa := by rw [hwa]; exact (Below.refl _ _).alloc (Nat.le_refl _) _
  have hrb : wa.heap[w.heap.size]? = some (.cells #[.int .i64 sz, .slice A m c] 24 (0, 0)) := by rw [hwa]; exact heap_alloc_new w _
  have R := Lib.hid ((r.below hba).more hba.size)
  have HCk := Lib.hid (rdata_any sz A m c ps wa R.out)
  have HC : Hid (∀ W, Below wa.heap.size wa W → W.cell? ⟨w.heap.size, 0, none⟩ = some (.int .i64 sz) ∧ W.cell? ⟨w.heap.size, 1, none⟩ = some (.slice A m c)) := fun W h => dat_cells (row_below hrb (row_lt hrb) h)
  have HWA := Lib.hid hwa
  have HBA := Lib.hid hba
  clear r hba hrb hwa
  by_cases hd : datE sz ps = 0
  · obtain ⟨⟨z0, z1⟩, hok⟩ := datE_zero hd
    rw [hd] at HCk
    by_cases hneg : a < 0 ∨ n < 0
    · obtain ⟨f1, f2⟩ := fr_arg hd hneg
      have F1 := Lib.hid f1
      have F2 := Lib.hid f2
      clear f1 f2 hd
      rcases (show a < 0 ∨ (¬ a < 0 ∧ n < 0) by omega) with ha | ⟨ha, hn⟩
      · go_enter Try.func14, Try.ntmps14
        go_wp2_with (go_at_call 16; rw [← HWA.out]; refine HCk.out.mono ?_; rintro e w1 ⟨rfl, hb1⟩)
        go_ret2
        exact ⟨by rw [F1.out, F2.out] <;> rfl, HBA.out.trans (hb1.mono HBA.out.size)⟩
      · go_enter Try.func14, Try.ntmps14
        go_wp2_with (go_at_call 16; rw [← HWA.out]; refine HCk.out.mono ?_; rintro e w1 ⟨rfl, hb1⟩)
        go_ret2
        exact ⟨by rw [F1.out, F2.out] <;> rfl, HBA.out.trans (hb1.mono HBA.out.size)⟩
    · obtain ⟨k, rfl⟩ : ∃ k : Nat, sz = (k : Int) := ⟨sz.toNat, by omega⟩
      obtain ⟨a', rfl⟩ : ∃ k : Nat, a = (k : Int) := ⟨a.toNat, by omega⟩
      obtain ⟨n', rfl⟩ : ∃ k : Nat, n = (k : Int) := ⟨n.toNat, by omega⟩
      obtain ⟨f1, f2⟩ := fr_ok (k := k) (a := a') (n := n') hd
      have F1 := Lib.hid f1
      have F2 := Lib.hid f2
      have HBY : Hid (∀ W, Below wa.heap.size wa W → Calls Try.prog 50 #[.agg #[.int .i64 k, .slice A m c]] W fun e w' => e = .returned (.string (mkS (whB k 0 ps))) ∧ Below W.heap.size W w') := fun W h => bytes_any k A m c ps W ((R.out.below h).more h.size) (by omega) hok
      have HSL : Hid (∀ W, Calls Try.prog 49 #[.string (mkS (whB k 0 ps)), .int .i64 a', .int .i64 n'] W fun e w' => e = .returned (.string (mkS (((whB k 0 ps).drop a').take n'))) ∧ w' = W) := slice_any (mkS (whB k 0 ps)) a' n'
      clear f1 f2 hd hok hneg z0 z1
      generalize whB k 0 ps = X at *
      go_enter Try.func14, Try.ntmps14
      go_wp2_with (first
        | (go_at_call 16; rw [← HWA.out]; refine HCk.out.mono ?_; rintro e w1 ⟨rfl, hb1⟩; have HB1 := Lib.hid hb1; obtain ⟨k0, k1⟩ := HC.out _ hb1; clear hb1)
        | (go_at_call 50; refine (HBY.out _ HB1.out).mono ?_; rintro e w2 ⟨rfl, hb2⟩; have HB2 := Lib.hid hb2; clear hb2)
        | (go_at_call 49; refine (HSL.out _).mono ?_; rintro e w' ⟨rfl, hw'⟩; rw [hw']; clear hw'))
      go_ret2
      exact ⟨by rw [F1.out, F2.out] <;> rfl, HBA.out.trans ((HB1.out.trans (HB2.out.mono HB1.out.size)).mono HBA.out.size)⟩
  · obtain ⟨f1, f2⟩ := fr_dat (a := a) (n := n) hd
    have F1 := Lib.hid f1
    have F2 := Lib.hid f2
    have hE2 : (datE sz ps != 0) = true := bne_iff_ne.2 hd
    clear f1 f2 hd
    generalize datE sz ps = E at *
    go_enter Try.func14, Try.ntmps14
    go_wp2_with (go_at_call 16; rw [← HWA.out]; refine HCk.out.mono ?_; rintro e w1 ⟨rfl, hb1⟩)
    go_ret2
    exact ⟨by rw [F1.out, F2.out] <;> rfl, HBA.out.trans (hb1.mono HBA.out.size)⟩

set_option maxRecDepth 20000 in
set_option maxHeartbeats 2000000 in
theorem fread_any (sz : Int) (A : Option Addr) (m c : Nat) (ps : List ByteArray) (a n : Int) (w : World) (r : RowsIn w w.heap.size A m c (fun z => [.string z]) 1 ps) :
    Calls Try.prog 13 #[.agg #[.int .i64 sz, .slice A m c], .int .i64 a, .int .i64 n] w (FrPost sz a n ps w) := by
  obtain ⟨wa, hwa⟩ : ∃ wa, wa = w.alloc (.cells #[.int .i64 sz, .slice A m c] 24) := ⟨_, rfl⟩
  have hba : Below w.heap.size w wa := by rw [hwa]; exact (Below.refl _ _).alloc (Nat.le_refl _) _
  have hrb : wa.heap[w.heap.size]? = some (.cells #[.int .i64 sz, .slice A m c] 24 (0, 0)) := by rw [hwa]; exact heap_alloc_new w _
  have hlt0 : w.heap.size < wa.heap.size := by rw [hwa]; simp
  have R := Lib.hid ((r.below hba).more hba.size)
  have HCk := Lib.hid (fcheck_any sz A m c ps wa R.out)
  have HC : Hid (∀ W, Below wa.heap.size wa W → W.cell? ⟨w.heap.size, 0, none⟩ = some (.int .i64 sz) ∧ W.cell? ⟨w.heap.size, 1, none⟩ = some (.slice A m c)) := fun W h => dat_cells (row_below hrb (row_lt hrb) h)
  have HWA := Lib.hid hwa
  have HBA := Lib.hid hba
  clear r hba hrb hwa
  by_cases hd : datE sz ps = 0
  · obtain ⟨⟨z0, z1⟩, hok⟩ := datE_zero hd
    rw [hd] at HCk
    by_cases hneg : a < 0 ∨ n < 0
    · obtain ⟨f1, f2⟩ := fr_arg hd hneg
      have F1 := Lib.hid f1
      have F2 := Lib.hid f2
      clear f1 f2 hd
      rcases (show a < 0 ∨ (¬ a < 0 ∧ n < 0) by omega) with ha | ⟨ha, hn⟩
      · go_enter Try.func13, Try.ntmps13
        go_wp2_with (go_at_call 15; rw [← HWA.out]; refine HCk.out.mono ?_; rintro e w1 ⟨rfl, hb1⟩)
        go_ret2
        exact ⟨by rw [F1.out, F2.out] <;> rfl, HBA.out.trans (hb1.mono HBA.out.size)⟩
      · go_enter Try.func13, Try.ntmps13
        go_wp2_with (go_at_call 15; rw [← HWA.out]; refine HCk.out.mono ?_; rintro e w1 ⟨rfl, hb1⟩)
        go_ret2
        exact ⟨by rw [F1.out, F2.out] <;> rfl, HBA.out.trans (hb1.mono HBA.out.size)⟩
    · obtain ⟨k, rfl⟩ : ∃ k : Nat, sz = (k : Int) := ⟨sz.toNat, by omega⟩
      obtain ⟨a', rfl⟩ : ∃ k : Nat, a = (k : Int) := ⟨a.toNat, by omega⟩
      obtain ⟨n', rfl⟩ : ∃ k : Nat, n = (k : Int) := ⟨n.toNat, by omega⟩
      obtain ⟨f1, f2⟩ := fr_ok (k := k) (a := a') (n := n') hd
      have hlen : (whB k 0 ps).length = k := whole_len hok
      by_cases hak : k ≤ a'
      · have F2 : Hid (frS k a' n' ps = ⟨#[]⟩) := by
          simp only [Hid]; rw [f2, List.drop_of_length_le (by omega)]; simp [mkS]
        have F1 := Lib.hid f1
        have i1 : (k : Int) ≤ (a' : Int) := by omega
        clear f1 f2 hd hok hneg z0 z1 hlen hak
        go_enter Try.func13, Try.ntmps13
        go_wp2_with (go_at_call 15; rw [← HWA.out]; refine HCk.out.mono ?_; rintro e w1 ⟨rfl, hb1⟩; obtain ⟨k0, k1⟩ := HC.out _ hb1)
        go_ret2
        exact ⟨by rw [F1.out, F2.out] <;> rfl, HBA.out.trans (hb1.mono HBA.out.size)⟩
      · have F1 := Lib.hid f1
        have F2 := Lib.hid f2
        have HWH : Hid (∀ W, Below wa.heap.size wa W → Calls Try.prog 48 #[.agg #[.int .i64 k, .slice A m c]] W fun e w' => e = .returned (.string (mkS (whB k 0 ps))) ∧ Below W.heap.size W w') := fun W h => whole_any k A m c ps W ((R.out.below h).more h.size) (by omega) hok
        have i1 : (a' : Int) < (k : Int) := by omega
        have i0 : ¬ (k : Int) ≤ (a' : Int) := by omega
        have i2 : (k : Int) ≤ 4096 := by omega
        have HT : Hid (∀ x, (mkS (whB k 0 ps)).extract a' (a' + x) = mkS (((whB k 0 ps).drop a').take x)) := fun x => by rw [mk_extract]; congr 2; omega
        have hs1 : ((mkS (whB k 0 ps)).size : Int) ≤ (k : Int) := by rw [mk_size, hlen]; omega
        have hs2 : (k : Int) ≤ ((mkS (whB k 0 ps)).size : Int) := by rw [mk_size, hlen]; omega
        have HLX : Hid (((whB k 0 ps).drop a').length = k - a') := by simp only [Hid]; rw [List.length_drop, hlen]
        clear f1 f2 hd hok hneg z0 z1 hlen hak
        generalize whB k 0 ps = X at *
        generalize hTT : mkS X = T at *
        have HTT := Lib.hid hTT
        clear hTT
        have hw1 : IntKind.i64.wrap ((k : Int) - (a' : Int)) = (k : Int) - (a' : Int) := by rw [IntKind.wrap_i64]; omega
        obtain ⟨x, hx⟩ : ∃ x : Nat, min (n' : Int) ((k : Int) - (a' : Int)) = (x : Int) := ⟨(min (n' : Int) ((k : Int) - (a' : Int))).toNat, by omega⟩
        have hx2 : (x : Int) ≤ (k : Int) - (a' : Int) := by omega
        have hw2 : IntKind.i64.wrap ((a' : Int) + (x : Int)) = (a' : Int) + (x : Int) := by rw [IntKind.wrap_i64]; omega
        have F3 : Hid (mkS ((X.drop a').take n') = T.extract a' (a' + x)) := by
          simp only [Hid]; rw [HT.out]
          congr 1
          have hL := HLX.out
          rcases (show x = n' ∨ (x = k - a' ∧ k - a' ≤ n') by omega) with h | ⟨h, h2⟩
          · rw [h]
          · rw [h, List.take_of_length_le (by omega), List.take_of_length_le (by omega)]
        have p0 : (0 : Int) ≤ (a' : Int) := by omega
        have p1 : (a' : Int) ≤ (a' : Int) + (x : Int) := by omega
        have p2 : (a' : Int) + (x : Int) ≤ (T.size : Int) := by omega
        have p4 : (0 : Int) ≤ (a' : Int) + (x : Int) := by omega
        have p5 : ((a' : Int) + (x : Int)).toNat = a' + x := by omega
        go_enter Try.func13, Try.ntmps13
        go_upto_region 8 with (go_at_call 15; rw [← HWA.out]; refine HCk.out.mono ?_; rintro e w1 ⟨rfl, hb1⟩; have HB1 := Lib.hid hb1; obtain ⟨k0, k1⟩ := HC.out _ hb1; have hS : w1.cell? ⟨w.heap.size, 0, none⟩ = some (.int .i64 k) ∧ w1.cell? ⟨w.heap.size, 1, none⟩ = some (.slice A m c) ∧ wa.heap.size ≤ w1.heap.size ∧ Below wa.heap.size wa w1 := ⟨k0, k1, hb1.size, hb1⟩; clear hb1)
        go_region_held3 (fun W => W.cell? ⟨w.heap.size, 0, none⟩ = some (.int .i64 k) ∧ W.cell? ⟨w.heap.size, 1, none⟩ = some (.slice A m c) ∧ wa.heap.size ≤ W.heap.size ∧ Below wa.heap.size wa W)
          (first | assumption | exact keepc2d (by assumption) | exact keepc2b hlt0 hlt0 (by assumption) (by assumption))
          ((go_at_call 48; refine (HWH.out _ (keepc2w (by assumption))).mono ?_; rintro e w' ⟨rfl, hb⟩))
        all_goals
          rename_i hHeld
          have hfin := keepc2w hHeld
          go_wp2
          go_ret2
          exact ⟨by rw [F1.out, F2.out, F3.out] <;> rfl, HBA.out.trans (hfin.mono HBA.out.size)⟩
  · obtain ⟨f1, f2⟩ := fr_dat (a := a) (n := n) hd
    have F1 := Lib.hid f1
    have F2 := Lib.hid f2
    have hE2 : (datE sz ps != 0) = true := bne_iff_ne.2 hd
    clear f1 f2 hd
    generalize datE sz ps = E at *
    go_enter Try.func13, Try.ntmps13
    go_wp2_with (go_at_call 15; rw [← HWA.out]; refine HCk.out.mono ?_; rintro e w1 ⟨rfl, hb1⟩)
    go_ret2
    exact ⟨by rw [F1.out, F2.out] <;> rfl, HBA.out.trans (hb1.mono HBA.out.size)⟩
end Go.Proofs.Ytfhgglghofhndaa
