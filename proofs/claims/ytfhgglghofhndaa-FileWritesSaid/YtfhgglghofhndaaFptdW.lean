/- linenref.Parted, walked. -/
import Derived.Test.YtfhgglghofhndaaFptdP
namespace Go.Proofs.Ytfhgglghofhndaa
open Go.RowKit Go.PlainAid

set_option maxRecDepth 20000 in
set_option maxHeartbeats 2000000 in
theorem parted_any (f : FuncId) (caps : Array Value) (g : Nat → Bool) (s : ByteArray) (hs : s.size ≤ 8192) (B : Nat) (w : World) (hB : B ≤ w.heap.size) (w0 : World) (h0 : Below B w0 w) (hh : Holes f caps B w0 (npt s.size) g)
    (hcf : ∀ args W, (callFunc f args).run Try.prog W = .ok (.enter f args) W) :
    Calls Try.prog 55 #[.string s, .func (.func f) #[] caps] w fun e w' => ∃ D d, e = .returned (.agg #[.int .i64 s.size, .slice D (npt s.size) d]) ∧ Owns w' w.heap.size 1 (.slice D (npt s.size) d) (npt s.size) ((ptdL g s (npt s.size)).map Value.string) ∧ Below w.heap.size w w' := by
  have hz : (s.size : Int) ≤ 8192 := by omega
  have HN : Hid (npt s.size ≤ 16 ∧ (∀ i, i < npt s.size ↔ 512 * i < s.size)) := ⟨by unfold npt; omega, fun i => by unfold npt; omega⟩
  have HH := Lib.hid hh
  have H0 := Lib.hid h0
  have HZ := Lib.hid hs
  obtain ⟨wa, hwa⟩ : ∃ wa, wa = (w.alloc (.cells zeroDat 24)).alloc (.cells #[.int .i64 s.size, .slice none 0 0] 24) := ⟨_, rfl⟩
  have I0 : Hid (PdI g s w 0 none 0 wa) := by
    have e1 : wa.heap.size = w.heap.size + 2 := by rw [hwa]; simp
    refine { own := Owns.nil _ _ _, out := ?_, res := ?_, below := ?_, size := by omega }
    · rw [hwa]
      have := heap_alloc_new (w.alloc (.cells zeroDat 24)) (.cells #[.int .i64 s.size, .slice none 0 0] 24)
      rwa [show (w.alloc (.cells zeroDat 24)).heap.size = w.heap.size + 1 by simp] at this
    · rw [hwa]; exact row_alloc (heap_alloc_new w _) _
    · rw [hwa]; exact ((Below.refl _ _).alloc (Nat.le_refl _) _).alloc (by simp) _
  have HWA := Lib.hid hwa
  clear hh h0 hs hwa
  go_enter Try.func55, Try.ntmps55
  go_wp2
  have I1 := I0.out
  rw [HWA.out] at I1
  have J0 := Lib.hid I1
  clear I0 I1 HWA
  go_loopw [6] (fun v6 wr => ∃ (i : Nat) (A : Option Addr) (c : Nat), i ≤ npt s.size ∧ v6 = .int .i64 i ∧ Hid (PdI g s w i A c wr)) (fun v6 _ => npt s.size - (intOf v6).toNat)
  case atStart => exact ⟨0, none, 0, Nat.zero_le _, rfl, J0.out⟩
  case round =>
    obtain ⟨i, A, c, hi, rfl, hP⟩ := hrel
    obtain ⟨wq, rfl⟩ : ∃ z : World, z = wr := ⟨_, rfl⟩
    clear J0
    have i2 : (i : Int) ≤ 16 := by have := HN.out.1; omega
    by_cases hlt : i < npt s.size
    · have i1 : 512 * (i : Int) < (s.size : Int) := by have := (HN.out.2 i).1 hlt; omega
      have HLT := Lib.hid hlt
      have HCL := Lib.hid (HH.out i wq hlt (H0.out.trans (hP.out.below.mono hB)))
      have G3 : Hid (i + 1 ≤ maxLen ∧ (i + 1) * 16 ≤ 140737488355328) := by unfold maxLen Hid; omega
      have G4 : Hid (0 < 1) := by simp [Hid]
      clear hlt
      cases hg : g i
      · have HW := Lib.hid (width_any s.size i HZ.out (by have := HN.out.1; omega))
        obtain ⟨x, hx⟩ : ∃ x : Nat, x = wid s.size i := ⟨_, rfl⟩
        have hx1 : 512 * (i : Int) + (x : Int) ≤ (s.size : Int) := by rw [hx]; unfold wid; omega
        have hx0 : (x : Int) ≤ 512 := by rw [hx]; unfold wid; omega
        obtain ⟨V, hV⟩ : ∃ V, V = s.extract (512 * i) (512 * i + x) := ⟨_, rfl⟩
        have HV : Hid (ptAt g s i = V) := by simp only [Hid, ptAt, hg]; rw [hV, ext_mk, hx]; simp
        rw [← hx] at HW
        have HW2 : Hid (∀ W, Calls Try.prog 53 #[.int .i64 s.size, .int .i64 i] W fun e w' => e = .returned (.int .i64 (x : Int)) ∧ Below W.heap.size W w') := fun W => (HW.out W).mono (fun _ _ h => ⟨h.1, by rw [h.2]; exact Below.refl _ _⟩)
        rw [hg] at HCL
        have a1 : IntKind.i64.wrap (512 * (i : Int)) = 512 * (i : Int) := by rw [IntKind.wrap_i64]; omega
        have a2 : IntKind.i64.wrap (512 * (i : Int) + (x : Int)) = 512 * (i : Int) + (x : Int) := by rw [IntKind.wrap_i64]; omega
        have a3 : (0 : Int) ≤ 512 * (i : Int) := by omega
        have a4 : 512 * (i : Int) ≤ 512 * (i : Int) + (x : Int) := by omega
        have a5 : (0 : Int) ≤ 512 * (i : Int) + (x : Int) := by omega
        have a6 : (512 * (i : Int)).toNat = 512 * i := by omega
        have a7 : (512 * (i : Int) + (x : Int)).toNat = 512 * i + x := by omega
        clear hg hx
        have G2 : Hid (∀ u ∈ (#[.string V] : Array Value).toList, u.oneCell' = true) := by simp [Hid, Value.oneCell']
        go_upto_region 7 with (refine HCL.out.mono ?_; rintro e w2 ⟨rfl, hb2⟩; have hP2 := Lib.hid (hP.out.go hb2); have k1 := row_cell hP2.out.out 1; clear hb2)
        have hV2 := hV.symm
        clear hV
        obtain ⟨U, hU⟩ : ∃ U, U = (ptdL g s i).map Value.string := ⟨_, rfl⟩
        have HU := Lib.hid hU
        clear hU
        go_region_law
          (first
            | (refine step_app1 (P := Try.prog) (e := 9) (z := .string ⟨#[]⟩) (size := 1) (bytes := 16) (base := w.heap.size + 2) rfl (.tmp 26) (.tmp 38) 22 rfl Try.underlying22 info_strF rfl G4.out A i c U (by simp [go_sem]) GO.out GB.out w4.heap.size 1 #[.string V] 9 (by simp [go_sem]) GH.out rfl G2.out G3.out.1 G3.out.2 ?_; intro A3 c3 w5 hown5 hl5 hn5; obtain ⟨q1, q2⟩ := hP4.out.cells hl5)
            | (refine step_enter rfl 53 #[.int .i64 s.size, .int .i64 i] (.int .i64 (x : Int)) (by simp [go_sem]) (HW2.out w2.drew) ?_; intro w4 hb4; obtain ⟨GO, GB, GH, k2, k3, hP4⟩ := pd_after (V := V) hP2.out HU.out hb4))
        all_goals
          have HF := Lib.hid (hP4.out.add (by rw [HV.out, ← HU.out]; exact hown5) hl5)
          have HF2 := Lib.hid (HF.out.go ((Below.refl _ _).drew))
          go_wp2
          go_roundw
          case rel => first | exact ⟨i + 1, A3, c3, by have := HLT.out; omega, by go_num, HF.out⟩ | exact ⟨i + 1, A3, c3, by have := HLT.out; omega, by go_num, HF2.out⟩
          case measure => (have := HLT.out; simp [intOf]; try omega)
      · have HV : Hid (ptAt g s i = ⟨#[]⟩) := by simp only [Hid, ptAt, hg]; rfl
        rw [hg] at HCL
        clear hg
        have G2 : Hid (∀ u ∈ (#[.string ⟨#[]⟩] : Array Value).toList, u.oneCell' = true) := by simp [Hid, Value.oneCell']
        go_wp2_with (first
          | (at_builtin; refine wpList_add1 (size := 1) (bytes := 16) (base := w.heap.size + 2) (news := #[.string ⟨#[]⟩]) rfl rfl Try.underlying22 info_strF rfl G4.out hP2.out.own rfl hP2.out.size rfl rfl rfl G2.out G3.out.1 G3.out.2 ?_; intro A3 c3 w3 hown3 hl3 hn3; obtain ⟨q1, q2⟩ := hP2.out.cells hl3)
          | (refine HCL.out.mono ?_; rintro e w2 ⟨rfl, hb2⟩; have hP2 := Lib.hid (hP.out.go hb2); have k1 := row_cell hP2.out.out 1; clear hb2))
        have HF := Lib.hid (hP2.out.add (by rw [HV.out]; exact hown3) hl3)
        go_roundw
        case rel => exact ⟨i + 1, A3, c3, by have := HLT.out; omega, by go_num, HF.out⟩
        case measure => (have := HLT.out; simp [intOf]; try omega)
    · obtain rfl : i = npt s.size := by omega
      have i1 : ¬ 512 * ((npt s.size : Nat) : Int) < (s.size : Int) := by have := (HN.out.2 (npt s.size)).2; omega
      have m0 := row_cell hP.out.out 0
      have m1 := row_cell hP.out.out 1
      have hone : Hid ((#[.int .i64 s.size, .slice A (npt s.size) c] : Array Value).all (·.oneCell') = true) := by simp [Hid, Value.oneCell']
      clear hlt hi
      go_wp2_with (refine wpList_store_rowTo rfl _ _ _ rfl rfl w.heap.size #[.int .i64 s.size, .slice A (npt s.size) c] rfl rfl 24 zeroDat hP.out.res info_dat rfl hone.out ?_)
      refine bodyPost_ret (results_cell_row rfl _ _ w.heap.size _ #[.int .i64 s.size, .slice A (npt s.size) c] (0, 0) _ rfl (row_set hP.out.res) Try.underlying24 rfl info_dat) rfl ?_
      exact ⟨A, c, rfl, ((hP.out.own.setRow (by omega) _).more (by omega)), below_setRow hP.out.below (Nat.le_refl _) _⟩
end Go.Proofs.Ytfhgglghofhndaa
