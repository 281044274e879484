/- file.sized, walked. -/
import Derived.Test.YtfhgglghofhndaaFsdW
namespace Go.Proofs.Ytfhgglghofhndaa
open Go.RowKit Go.PlainAid

def SdPost (ps : List ByteArray) (z : Nat) (w : World) (e : Ending) (w' : World) : Prop :=
  ∃ b, e = .returned (.agg #[.int .i64 z, .slice (some ⟨b, 0, none⟩) (npt z) (npt z)]) ∧ Owns w' w.heap.size 1 (.slice (some ⟨b, 0, none⟩) (npt z) (npt z)) (npt z) ((cutL ps z).map Value.string) ∧ Below w.heap.size w w'
set_option maxRecDepth 20000 in
set_option maxHeartbeats 4000000 in
theorem sized_any (sz : Int) (A : Option Addr) (n c : Nat) (ps : List ByteArray) (z : Nat) (hz : z ≤ 8192) (w : World) (r : RowsIn w w.heap.size A n c (fun z => [.string z]) 1 ps) (hps : ∀ p ∈ ps, p.size ≤ 8192) :
    Calls Try.prog 54 #[.agg #[.int .i64 sz, .slice A n c], .int .i64 z] w (SdPost ps z w) := by
  have hn := r.len
  subst hn
  have HZ := Lib.hid hz
  have hq16 : npt z ≤ 16 := by unfold npt; omega
  have HQ := Lib.hid hq16
  have htop : (ps.length : Int) ≤ 9223372036854775807 := by have h1 := r.le; have h2 := r.top; unfold maxLen at h2; omega
  obtain ⟨wa, hwa⟩ : ∃ wa, wa = (((w.alloc (.cells #[.int .i64 sz, .slice A ps.length c] 24)).alloc (.cells zeroDaZ 24)).alloc (.cells (empRw (npt z)) 9)).alloc (.cells #[.int .i64 z, .slice (some ⟨w.heap.size + 2, 0, none⟩) (npt z) (npt z)] 24) := ⟨_, rfl⟩
  have I0 : Hid (SdI ps z w sz A c 0 wa) := by
    have e2 : ((w.alloc (.cells #[.int .i64 sz, .slice A ps.length c] 24)).alloc (.cells zeroDaZ 24)).heap.size = w.heap.size + 2 := by simp
    have e3 : (((w.alloc (.cells #[.int .i64 sz, .slice A ps.length c] 24)).alloc (.cells zeroDaZ 24)).alloc (.cells (empRw (npt z)) 9)).heap.size = w.heap.size + 3 := by simp
    refine { own := ?_, out := ?_, box := ?_, res := ?_, below := ?_, size := by rw [hwa]; simp }
    · rw [hwa, sdL_zero]
      have := own_made ((w.alloc (.cells #[.int .i64 sz, .slice A ps.length c] 24)).alloc (.cells zeroDaZ 24)) (npt z) (by unfold maxLen; omega) 9
      rw [e2] at this
      exact this.alloc _
    · rw [hwa]
      have := heap_alloc_new (((w.alloc (.cells #[.int .i64 sz, .slice A ps.length c] 24)).alloc (.cells zeroDaZ 24)).alloc (.cells (empRw (npt z)) 9)) (.cells #[.int .i64 z, .slice (some ⟨w.heap.size + 2, 0, none⟩) (npt z) (npt z)] 24)
      rwa [e3] at this
    · rw [hwa]; exact row_alloc (row_alloc (row_alloc (heap_alloc_new w _) _) _) _
    · rw [hwa]
      refine row_alloc (row_alloc ?_ _) _
      have := heap_alloc_new (w.alloc (.cells #[.int .i64 sz, .slice A ps.length c] 24)) (.cells zeroDaZ 24)
      rwa [show (w.alloc (.cells #[.int .i64 sz, .slice A ps.length c] 24)).heap.size = w.heap.size + 1 by simp] at this
    · rw [hwa]; exact ((((Below.refl _ _).alloc (Nat.le_refl _) _).alloc (by simp) _).alloc (by simp; omega) _).alloc (by simp; omega) _
  have HWA := Lib.hid hwa
  have R := Lib.hid r
  have HPS := Lib.hid hps
  have hmk := mk_emp (npt z) (by omega)
  have HP := Lib.hid (parts_any z hz)
  have I1 := I0.out
  rw [HWA.out] at I1
  have J0 := Lib.hid I1
  have hqi : ((npt z : Nat) : Int) ≤ 16 := by omega
  clear I0 I1 HWA hwa r hps hz hq16
  generalize hNN : npt z = N at *
  have HNN := Lib.hid hNN
  clear hNN
  obtain ⟨mn, hmn⟩ : ∃ mn : Nat, mn = min ps.length N := ⟨_, rfl⟩
  have hmin : min (ps.length : Int) (N : Int) = (mn : Int) := by omega
  have HMN : Hid (mn ≤ ps.length ∧ mn ≤ N ∧ (mn = ps.length ∨ mn = N)) := by simp only [Hid]; omega
  clear hmn
  go_enter Try.func54, Try.ntmps54
  go_wp2_with (go_at_call 51; refine (HP.out _).mono ?_; rintro e w' ⟨rfl, hw'⟩; rw [hw']; clear hw')
  go_loopw [21] (fun v21 wr => ∃ i : Nat, i ≤ mn ∧ v21 = .int .i64 i ∧ Hid (SdI ps z w sz A c i wr)) (fun v21 _ => mn - (intOf v21).toNat)
  case atStart => exact ⟨0, Nat.zero_le _, rfl, J0.out⟩
  case round =>
    obtain ⟨i, hi, rfl, hP⟩ := hrel
    obtain ⟨wq, rfl⟩ : ∃ z : World, z = wr := ⟨_, rfl⟩
    clear J0 hmk HP
    by_cases hlt : i < mn
    · have hlN : i < N := by have := HMN.out; omega
      have hlp : i < ps.length := by have := HMN.out; omega
      have HLN : Hid (i < npt z) := by rw [HNN.out]; exact hlN
      have HLT := Lib.hid hlt
      obtain ⟨p, e1⟩ : ∃ p, ps[i]? = some p := ⟨_, List.getElem?_eq_getElem hlp⟩
      have E1 := Lib.hid e1
      have hp8 : (p.size : Int) ≤ 8192 := by have := HPS.out p (List.mem_of_getElem? e1); omega
      obtain ⟨b, o, rfl, hbB, hc⟩ := (R.out.below hP.out.below).one e1
      have HLO := Lib.hid (long_any z i HZ.out HLN.out)
      obtain ⟨x, hx⟩ : ∃ x : Nat, x = wid z i := ⟨_, rfl⟩
      have hx0 : (x : Int) ≤ 512 := by rw [hx]; unfold wid; omega
      rw [← hx] at HLO
      have HX := Lib.hid hx
      obtain ⟨k1, k2, k3⟩ := hP.out.cells
      rw [HNN.out] at k1
      have i1 : (i : Int) < (mn : Int) := by omega
      have i2 : (i : Int) < (ps.length : Int) := by omega
      have i3 : (i : Int) < (N : Int) := by omega
      clear e1 hx hlt hi hlN hlp
      by_cases hp : p.size = 0
      · have HSK := Lib.hid (cutAt_emp (z := z) E1.out hp)
        obtain rfl : p = ⟨#[]⟩ := by
          have := size_zero hp; exact this
        clear hp
        go_wp2
        go_quiet ((go_at_call 52; exact Calls.quiet_of_same (HLO.out _)))
        go_wp2
        have HF := Lib.hid ((hP.out.go (below_drewN (Below.refl _ _) nq)).skip HSK.out)
        go_roundw
        case rel => exact ⟨i + 1, by have := HLT.out; omega, by go_num, HF.out⟩
        case measure => (have := HLT.out; simp [intOf]; try omega)
      · have hne := emp_ne hp
        have hne2 := emp_ne2 hp
        have hne3 := emp_ne3 hp
        by_cases hw : x ≤ p.size
        · have HCT : Hid (cutAt ps z i = p.extract 0 x) := by have := cutAt_cut (z := z) E1.out hp (by rw [← HX.out]; exact hw); rw [← HX.out] at this; exact this
          have j1 : (x : Int) ≤ (p.size : Int) := by omega
          have HSZ := Lib.hid hp
          clear hp hw
          go_wp2
          go_quiet ((go_at_call 52; exact Calls.quiet_of_same (HLO.out _)))
          obtain ⟨wd, hwd⟩ : ∃ wd, wd = wq.drewN nq := ⟨_, rfl⟩
          have hPd : Hid (SdI ps z w sz (some ⟨b, o, none⟩) c i wd) := by rw [hwd]; exact hP.out.go (below_drewN (Below.refl _ _) nq)
          rw [← hwd]
          obtain ⟨m1, m2, m3⟩ := hPd.out.cells
          rw [HNN.out] at m1
          obtain ⟨u, hu⟩ := hPd.out.old HLN.out
          have hfz := (hPd.out.at_ HLN.out).2
          have HF := Lib.hid (hPd.out.set HLN.out _ HCT.out)
          clear hwd
          go_upto_region 9 with fail
          go_region_law (fail)
          all_goals
            have HF2 := Lib.hid (HF.out.go ((Below.refl _ _).drew))
            go_wp2
            go_roundw
            case rel => first | exact ⟨i + 1, by have := HLT.out; omega, by go_num, HF.out⟩ | exact ⟨i + 1, by have := HLT.out; omega, by go_num, HF2.out⟩
            case measure => (have := HLT.out; simp [intOf]; try omega)
        · have HCT : Hid (cutAt ps z i = mkS (bl p ++ zer (x - p.size))) := by have := cutAt_pad (z := z) E1.out hp (by rw [← HX.out]; exact hw); rw [← HX.out] at this; exact this
          obtain ⟨D, hD⟩ : ∃ D : Nat, D = x - p.size := ⟨_, rfl⟩
          have hd0 : (x : Int) - (p.size : Int) = (D : Int) := by omega
          have hd1 : IntKind.i64.wrap (D : Int) = (D : Int) := by rw [IntKind.wrap_i64]; omega
          have j1 : ¬ (x : Int) ≤ (p.size : Int) := by omega
          have HRP : Hid (∀ W, Calls Try.prog 86 #[.string ⟨#[0]⟩, .int .i64 (D : Int)] W fun e w' => e = .returned (.string (mkS (zer D))) ∧ Below W.heap.size W w') := fun W => by
            have := Try.strings_Repeat ⟨#[0]⟩ D W (by omega) (by show 1 * _ ≤ _; omega)
            have e : Lib.repeatL (⟨#[0]⟩ : ByteArray).data.toList D = zer D := rep_zer _
            rw [e] at this
            exact this
          have hcat := cat_mk (P := Try.prog) (bl p) (mkS (zer D)) (by rw [bl_len, mk_size, zer_len]; omega)
          rw [mk_bl, bl_mk] at hcat
          rw [← hD] at HCT
          have HSZ := Lib.hid hp
          clear hp hw hD
          generalize mkS (bl p ++ zer D) = V at *
          generalize mkS (zer D) = ZD at *
          go_wp2
          go_quiet ((go_at_call 52; exact Calls.quiet_of_same (HLO.out _)))
          obtain ⟨wd, hwd⟩ : ∃ wd, wd = wq.drewN nq := ⟨_, rfl⟩
          have hPd : Hid (SdI ps z w sz (some ⟨b, o, none⟩) c i wd) := by rw [hwd]; exact hP.out.go (below_drewN (Below.refl _ _) nq)
          rw [← hwd]
          obtain ⟨m1, m2, m3⟩ := hPd.out.cells
          rw [HNN.out] at m1
          have HN2 : Hid (N = npt z) := HNN.out.symm
          clear hwd
          go_upto_region 6 with fail
          go_region_law ((refine step_enter rfl 86 #[.string ⟨#[0]⟩, .int .i64 (D : Int)] (.string ZD) (by simp [go_sem]) (HRP.out wd.drew) ?_; intro w4 hb4; have hP4 := Lib.hid ((hPd.out.go ((Below.refl _ _).drew)).go hb4); obtain ⟨n1, n2, n3⟩ := hP4.out.cells; rw [HNN.out] at n1; obtain ⟨u, hu⟩ := hP4.out.old HLN.out; have hfz := (hP4.out.at_ HLN.out).2))
          all_goals
            have HF := Lib.hid (hP4.out.set HLN.out _ HCT.out)
            have HF2 := Lib.hid (HF.out.go ((Below.refl _ _).drew))
            go_wp2
            go_roundw
            case rel => first | exact ⟨i + 1, by have := HLT.out; omega, by go_num, HF.out⟩ | exact ⟨i + 1, by have := HLT.out; omega, by go_num, HF2.out⟩
            case measure => (have := HLT.out; simp [intOf]; try omega)
    · obtain rfl : i = mn := by omega
      have i1 : ¬ (i : Int) < (i : Int) := by omega
      have HALL : Hid (sdL ps z (npt z) i = cutL ps z) := sdL_all fun j h1 h2 => by
        rw [HNN.out] at h2
        exact cutAt_none (by have := HMN.out; omega)
      have m0 := row_cell hP.out.out 0
      have m1 := row_cell hP.out.out 1
      have HO := hP.out.own
      rw [HALL.out, HNN.out] at HO
      have HOW := Lib.hid HO
      rw [HNN.out] at m1
      have hone : Hid ((#[.int .i64 z, .slice (some ⟨w.heap.size + 2, 0, none⟩) N N] : Array Value).all (·.oneCell') = true) := by simp [Hid, Value.oneCell']
      clear hlt hi HO
      go_wp2_with (refine wpList_store_rowTo rfl _ _ _ rfl rfl (w.heap.size + 1) #[.int .i64 z, .slice (some ⟨w.heap.size + 2, 0, none⟩) N N] rfl rfl 24 zeroDaZ hP.out.res info_datZ rfl hone.out ?_)
      refine bodyPost_ret (results_cell_row rfl _ _ (w.heap.size + 1) _ #[.int .i64 z, .slice (some ⟨w.heap.size + 2, 0, none⟩) N N] (0, 0) _ rfl (row_set hP.out.res) Try.underlying24 rfl info_datZ) rfl ?_
      exact ⟨w.heap.size + 2, by rw [HNN.out], by rw [HNN.out]; exact (HOW.out.setRow (by omega) _).more (by omega), below_setRow hP.out.below (by omega) _⟩
end Go.Proofs.Ytfhgglghofhndaa
