/- inode.Check and linenref.Inode, walked. -/
import Derived.Test.YtjmgocfoimhmjaaInodeP
namespace Go.Proofs.Ytjmgocfoimhmjaa
open Go.RowKit

/-- A struct of four cells, boxed. -/
theorem box4 (w : World) (v0 v1 v2 v3 : Value) (t : TypeId) : (w.alloc (.cells #[v0, v1, v2, v3] t)).cell? ⟨w.heap.size, 0, none⟩ = some v0 ∧ (w.alloc (.cells #[v0, v1, v2, v3] t)).cell? ⟨w.heap.size, 1, none⟩ = some v1 ∧ (w.alloc (.cells #[v0, v1, v2, v3] t)).cell? ⟨w.heap.size, 2, none⟩ = some v2 ∧ (w.alloc (.cells #[v0, v1, v2, v3] t)).cell? ⟨w.heap.size, 3, none⟩ = some v3 := by
  refine ⟨?_, ?_, ?_, ?_⟩ <;> (unfold World.cell?; rw [heap_alloc_new w _]; rfl)

set_option maxRecDepth 20000 in
set_option maxHeartbeats 1000000 in
theorem inoc_any (k g s : Int) (A : Option Addr) (n c : Nat) (xs : List PlaceD) (w : World) (hs0 : -9223372036854775808 ≤ s) (hs1 : s ≤ 9223372036854775807) (r : RowsIn w w.heap.size A n c PlaceD.cells 2 xs) :
    Calls Try.prog 109 #[.agg #[.int .i64 k, .int .i64 g, .int .i64 s, .slice A n c]] w fun e w' => e = .returned (.int .i64 (inoE k g s xs)) ∧ Below w.heap.size w w' := by
  have hlen := r.len
  subst hlen
  have htop : (xs.length : Int) ≤ 9223372036854775807 := by have h1 := r.le; have h2 := r.top; unfold maxLen at h2; omega
  have hbw : Below w.heap.size w (w.alloc (.cells #[.int .i64 k, .int .i64 g, .int .i64 s, .slice A xs.length c] 116)) := (Below.refl _ _).alloc (Nat.le_refl _) _
  by_cases hk : k ≠ 1 ∧ k ≠ 2
  · have F := Lib.hid (inoE_arg (k := k) (g := g) (s := s) (xs := xs) (by omega))
    have k1 : (k != 1) = true := bne_iff_ne.2 hk.1
    have k2 : (k != 2) = true := bne_iff_ne.2 hk.2
    go_enter Try.func109, Try.ntmps109
    go_wp2
    go_ret
    exact ⟨ret_i1 F.out.symm, hbw⟩
  obtain rfl | rfl : k = 1 ∨ k = 2 := by omega
  · by_cases h1 : g < 0
    · have F := Lib.hid (inoE_arg (k := 1) (g := g) (s := s) (xs := xs) (by omega))
      go_enter Try.func109, Try.ntmps109
      go_wp2
      go_ret
      exact ⟨ret_i1 F.out.symm, hbw⟩
    · by_cases h2 : 2147483647 < g
      · have F := Lib.hid (inoE_arg (k := 1) (g := g) (s := s) (xs := xs) (by omega))
        go_enter Try.func109, Try.ntmps109
        go_wp2
        go_ret
        exact ⟨ret_i1 F.out.symm, hbw⟩
      · have hA : ¬ (((1 : Int) ≠ 1 ∧ (1 : Int) ≠ 2) ∨ g < 0 ∨ 2147483647 < g) := by omega
        have g1' : decide (g < 0) = false := by simpa using h1
        have g2' : decide (2147483647 < g) = false := by simpa using h2
        by_cases h3 : s < 0
        · have F := Lib.hid (inoE_large (xs := xs) (s := s) hA (by omega))
          go_enter Try.func109, Try.ntmps109
          go_wp2
          go_ret
          exact ⟨ret_i1 F.out.symm, hbw⟩
        · by_cases h4 : 4096 < s
          · have F := Lib.hid (inoE_large (xs := xs) (s := s) hA (by omega))
            go_enter Try.func109, Try.ntmps109
            go_wp2
            go_ret
            exact ⟨ret_i1 F.out.symm, hbw⟩
          · have hB : ¬ (s < 0 ∨ 4096 < s) := by omega
            by_cases h5 : (xs.length : Int) = (s + 511) / 512
            · obtain ⟨J, hJ, hgood, hbad⟩ := ino_to xs
              have HG := Lib.hid hgood
              have HB := Lib.hid hbad
              have E0 : Hid (J = xs.length → inoE 1 g s xs = 0) := fun e => inoE_ok hA hB h5 (by rw [← e]; exact hgood)
              have E4 : Hid (J < xs.length → inoE 1 g s xs = 4) := fun e => inoE_form hA hB fun h => by
                obtain ⟨p, e1, e2⟩ := hbad e
                obtain ⟨p', e1', e2'⟩ := h.2 J e
                rw [e1] at e1'; injection e1' with e1'; subst e1'
                rw [e2] at e2'; cases e2'
              clear hgood hbad hA hB
              have hq : (s + 511).tdiv 512 = (xs.length : Int) := by rw [Int.tdiv_eq_ediv_of_nonneg (by omega)]; exact h5.symm
              go_enter Try.func109, Try.ntmps109
              go_wp2
              obtain ⟨hb0, hb1, hb2, hb3⟩ := box4 w (.int .i64 1) (.int .i64 g) (.int .i64 s) (.slice A xs.length c) 116
              have hws : w.heap.size < (w.alloc (.cells #[.int .i64 1, .int .i64 g, .int .i64 s, .slice A xs.length c] 116)).heap.size := by simp
              generalize w.alloc (.cells #[.int .i64 1, .int .i64 g, .int .i64 s, .slice A xs.length c] 116) = wa at *
              go_loopw [43] (fun v18 wr => ∃ i : Nat, i ≤ J ∧ v18 = .int .i64 i ∧ Below wa.heap.size wa wr) (fun v18 _ => xs.length - (intOf v18).toNat)
              case atStart => exact ⟨0, Nat.zero_le _, rfl, Below.refl _ _⟩
              case round =>
                obtain ⟨i, hi, rfl, hb⟩ := hrel
                have hfin : Below w.heap.size w wr := hbw.trans (hb.mono (Nat.le_of_lt hws))
                have hsz := hb.size
                by_cases hlt : i < J
                · obtain ⟨p, e1, g1⟩ := HG.out i hlt
                  obtain ⟨b, o, rfl, hbB, hc⟩ := (r.below hfin).at_ i _ e1
                  obtain ⟨pc, pn⟩ := p
                  have hp0 := hc 0 _ rfl
                  have hp1 := hc 1 _ rfl
                  simp only [Nat.add_zero] at hp0
                  clear hc e1
                  have hg1 : rightB pc pn = true := g1
                  clear g1
                  have hil : i < xs.length := by omega
                  go_wp2_with (go_at_call 57; refine (right_any _ _ _).mono ?_; rintro e w' ⟨rfl, rfl⟩)
                  go_roundw
                  case rel => exact ⟨i + 1, by omega, by go_num, (hb.alloc hsz _).alloc (by simp; omega) _⟩
                  case measure => simp [intOf]; omega
                · obtain rfl : i = J := by omega
                  by_cases hend : i < xs.length
                  · obtain ⟨p, e1, hg⟩ := HB.out hend
                    have F := Lib.hid (E4.out hend)
                    obtain ⟨b, o, rfl, hbB, hc⟩ := (r.below hfin).at_ i _ e1
                    obtain ⟨pc, pn⟩ := p
                    have hp0 := hc 0 _ rfl
                    have hp1 := hc 1 _ rfl
                    simp only [Nat.add_zero] at hp0
                    clear hc e1
                    simp only at hg
                    go_wp2_with (go_at_call 57; refine (right_any _ _ _).mono ?_; rintro e w' ⟨rfl, rfl⟩)
                    go_ret
                    exact ⟨ret_i1 F.out.symm, (hfin.alloc (by omega) _).alloc (by simp; omega) _⟩
                  · have F := Lib.hid (E0.out (by omega))
                    go_wp2
                    go_ret
                    exact ⟨ret_i1 F.out.symm, hfin⟩
            · have F := Lib.hid (inoE_form (xs := xs) hA hB fun h => h5 h.1)
              have hq2 : ((xs.length : Int) != (s + 511) / 512) = true := bne_iff_ne.2 h5
              go_enter Try.func109, Try.ntmps109
              go_wp2
              go_ret
              exact ⟨ret_i1 F.out.symm, hbw⟩
  · by_cases h1 : g < 0
    · have F := Lib.hid (inoE_arg (k := 2) (g := g) (s := s) (xs := xs) (by omega))
      go_enter Try.func109, Try.ntmps109
      go_wp2
      go_ret
      exact ⟨ret_i1 F.out.symm, hbw⟩
    · by_cases h2 : 2147483647 < g
      · have F := Lib.hid (inoE_arg (k := 2) (g := g) (s := s) (xs := xs) (by omega))
        go_enter Try.func109, Try.ntmps109
        go_wp2
        go_ret
        exact ⟨ret_i1 F.out.symm, hbw⟩
      · have hA : ¬ (((2 : Int) ≠ 1 ∧ (2 : Int) ≠ 2) ∨ g < 0 ∨ 2147483647 < g) := by omega
        have g1' : decide (g < 0) = false := by simpa using h1
        have g2' : decide (2147483647 < g) = false := by simpa using h2
        by_cases h3 : s < 0
        · have F := Lib.hid (inoE_large (xs := xs) (s := s) hA (by omega))
          go_enter Try.func109, Try.ntmps109
          go_wp2
          go_ret
          exact ⟨ret_i1 F.out.symm, hbw⟩
        · by_cases h4 : 4096 < s
          · have F := Lib.hid (inoE_large (xs := xs) (s := s) hA (by omega))
            go_enter Try.func109, Try.ntmps109
            go_wp2
            go_ret
            exact ⟨ret_i1 F.out.symm, hbw⟩
          · have hB : ¬ (s < 0 ∨ 4096 < s) := by omega
            by_cases h5 : (xs.length : Int) = (s + 511) / 512
            · obtain ⟨J, hJ, hgood, hbad⟩ := ino_to xs
              have HG := Lib.hid hgood
              have HB := Lib.hid hbad
              have E0 : Hid (J = xs.length → inoE 2 g s xs = 0) := fun e => inoE_ok hA hB h5 (by rw [← e]; exact hgood)
              have E4 : Hid (J < xs.length → inoE 2 g s xs = 4) := fun e => inoE_form hA hB fun h => by
                obtain ⟨p, e1, e2⟩ := hbad e
                obtain ⟨p', e1', e2'⟩ := h.2 J e
                rw [e1] at e1'; injection e1' with e1'; subst e1'
                rw [e2] at e2'; cases e2'
              clear hgood hbad hA hB
              have hq : (s + 511).tdiv 512 = (xs.length : Int) := by rw [Int.tdiv_eq_ediv_of_nonneg (by omega)]; exact h5.symm
              go_enter Try.func109, Try.ntmps109
              go_wp2
              obtain ⟨hb0, hb1, hb2, hb3⟩ := box4 w (.int .i64 2) (.int .i64 g) (.int .i64 s) (.slice A xs.length c) 116
              have hws : w.heap.size < (w.alloc (.cells #[.int .i64 2, .int .i64 g, .int .i64 s, .slice A xs.length c] 116)).heap.size := by simp
              generalize w.alloc (.cells #[.int .i64 2, .int .i64 g, .int .i64 s, .slice A xs.length c] 116) = wa at *
              go_loopw [43] (fun v18 wr => ∃ i : Nat, i ≤ J ∧ v18 = .int .i64 i ∧ Below wa.heap.size wa wr) (fun v18 _ => xs.length - (intOf v18).toNat)
              case atStart => exact ⟨0, Nat.zero_le _, rfl, Below.refl _ _⟩
              case round =>
                obtain ⟨i, hi, rfl, hb⟩ := hrel
                have hfin : Below w.heap.size w wr := hbw.trans (hb.mono (Nat.le_of_lt hws))
                have hsz := hb.size
                by_cases hlt : i < J
                · obtain ⟨p, e1, g1⟩ := HG.out i hlt
                  obtain ⟨b, o, rfl, hbB, hc⟩ := (r.below hfin).at_ i _ e1
                  obtain ⟨pc, pn⟩ := p
                  have hp0 := hc 0 _ rfl
                  have hp1 := hc 1 _ rfl
                  simp only [Nat.add_zero] at hp0
                  clear hc e1
                  have hg1 : rightB pc pn = true := g1
                  clear g1
                  have hil : i < xs.length := by omega
                  go_wp2_with (go_at_call 57; refine (right_any _ _ _).mono ?_; rintro e w' ⟨rfl, rfl⟩)
                  go_roundw
                  case rel => exact ⟨i + 1, by omega, by go_num, (hb.alloc hsz _).alloc (by simp; omega) _⟩
                  case measure => simp [intOf]; omega
                · obtain rfl : i = J := by omega
                  by_cases hend : i < xs.length
                  · obtain ⟨p, e1, hg⟩ := HB.out hend
                    have F := Lib.hid (E4.out hend)
                    obtain ⟨b, o, rfl, hbB, hc⟩ := (r.below hfin).at_ i _ e1
                    obtain ⟨pc, pn⟩ := p
                    have hp0 := hc 0 _ rfl
                    have hp1 := hc 1 _ rfl
                    simp only [Nat.add_zero] at hp0
                    clear hc e1
                    simp only at hg
                    go_wp2_with (go_at_call 57; refine (right_any _ _ _).mono ?_; rintro e w' ⟨rfl, rfl⟩)
                    go_ret
                    exact ⟨ret_i1 F.out.symm, (hfin.alloc (by omega) _).alloc (by simp; omega) _⟩
                  · have F := Lib.hid (E0.out (by omega))
                    go_wp2
                    go_ret
                    exact ⟨ret_i1 F.out.symm, hfin⟩
            · have F := Lib.hid (inoE_form (xs := xs) hA hB fun h => h5 h.1)
              have hq2 : ((xs.length : Int) != (s + 511) / 512) = true := bne_iff_ne.2 h5
              go_enter Try.func109, Try.ntmps109
              go_wp2
              go_ret
              exact ⟨ret_i1 F.out.symm, hbw⟩

set_option maxRecDepth 20000 in
set_option maxHeartbeats 1000000 in
theorem inor_any (k g s : Int) (A : Option Addr) (n c : Nat) (xs : List PlaceD) (w : World) (hs0 : -9223372036854775808 ≤ s) (hs1 : s ≤ 9223372036854775807) (r : RowsIn w w.heap.size A n c PlaceD.cells 2 xs) :
    Calls Try.prog 116 #[.agg #[.int .i64 k, .int .i64 g, .int .i64 s, .slice A n c]] w fun e w' => e = .returned (.int .i64 (inoE k g s xs)) ∧ Below w.heap.size w w' := by
  have hlen := r.len
  subst hlen
  have htop : (xs.length : Int) ≤ 9223372036854775807 := by have h1 := r.le; have h2 := r.top; unfold maxLen at h2; omega
  have hbw : Below w.heap.size w (w.alloc (.cells #[.int .i64 k, .int .i64 g, .int .i64 s, .slice A xs.length c] 116)) := (Below.refl _ _).alloc (Nat.le_refl _) _
  by_cases hk : k < 1
  · have F := Lib.hid (inoE_arg (k := k) (g := g) (s := s) (xs := xs) (by omega))
    go_enter Try.func116, Try.ntmps116
    go_wp2
    go_ret
    exact ⟨ret_i1 F.out.symm, hbw⟩
  by_cases hk2 : 2 < k
  · have F := Lib.hid (inoE_arg (k := k) (g := g) (s := s) (xs := xs) (by omega))
    go_enter Try.func116, Try.ntmps116
    go_wp2
    go_ret
    exact ⟨ret_i1 F.out.symm, hbw⟩
  obtain rfl | rfl : k = 1 ∨ k = 2 := by omega
  · by_cases h1 : g < 0
    · have F := Lib.hid (inoE_arg (k := 1) (g := g) (s := s) (xs := xs) (by omega))
      go_enter Try.func116, Try.ntmps116
      go_wp2
      go_ret
      exact ⟨ret_i1 F.out.symm, hbw⟩
    · by_cases h2 : 2147483647 < g
      · have F := Lib.hid (inoE_arg (k := 1) (g := g) (s := s) (xs := xs) (by omega))
        go_enter Try.func116, Try.ntmps116
        go_wp2
        go_ret
        exact ⟨ret_i1 F.out.symm, hbw⟩
      · have hA : ¬ (((1 : Int) ≠ 1 ∧ (1 : Int) ≠ 2) ∨ g < 0 ∨ 2147483647 < g) := by omega
        have g1' : decide (g < 0) = false := by simpa using h1
        have g2' : decide (2147483647 < g) = false := by simpa using h2
        by_cases h3 : s < 0
        · have F := Lib.hid (inoE_large (xs := xs) (s := s) hA (by omega))
          go_enter Try.func116, Try.ntmps116
          go_wp2
          go_ret
          exact ⟨ret_i1 F.out.symm, hbw⟩
        · by_cases h4 : 4096 < s
          · have F := Lib.hid (inoE_large (xs := xs) (s := s) hA (by omega))
            go_enter Try.func116, Try.ntmps116
            go_wp2
            go_ret
            exact ⟨ret_i1 F.out.symm, hbw⟩
          · have hB : ¬ (s < 0 ∨ 4096 < s) := by omega
            by_cases h5 : (xs.length : Int) = (s + 511) / 512
            · obtain ⟨J, hJ, hgood, hbad⟩ := ino_to xs
              have HG := Lib.hid hgood
              have HB := Lib.hid hbad
              have E0 : Hid (J = xs.length → inoE 1 g s xs = 0) := fun e => inoE_ok hA hB h5 (by rw [← e]; exact hgood)
              have E4 : Hid (J < xs.length → inoE 1 g s xs = 4) := fun e => inoE_form hA hB fun h => by
                obtain ⟨p, e1, e2⟩ := hbad e
                obtain ⟨p', e1', e2'⟩ := h.2 J e
                rw [e1] at e1'; injection e1' with e1'; subst e1'
                rw [e2] at e2'; cases e2'
              clear hgood hbad hA hB
              have q1 : ¬ (8 : Int) < (xs.length : Int) := by omega
              have q2 : ¬ 512 * (xs.length : Int) < s := by omega
              have q3 : ¬ s + 512 ≤ 512 * (xs.length : Int) := by omega
              go_enter Try.func116, Try.ntmps116
              go_wp2
              obtain ⟨hb0, hb1, hb2, hb3⟩ := box4 w (.int .i64 1) (.int .i64 g) (.int .i64 s) (.slice A xs.length c) 116
              have hws : w.heap.size < (w.alloc (.cells #[.int .i64 1, .int .i64 g, .int .i64 s, .slice A xs.length c] 116)).heap.size := by simp
              generalize w.alloc (.cells #[.int .i64 1, .int .i64 g, .int .i64 s, .slice A xs.length c] 116) = wa at *
              go_loopw [57] (fun v18 wr => ∃ i : Nat, i ≤ J ∧ v18 = .int .i64 i ∧ Below wa.heap.size wa wr) (fun v18 _ => xs.length - (intOf v18).toNat)
              case atStart => exact ⟨0, Nat.zero_le _, rfl, Below.refl _ _⟩
              case round =>
                obtain ⟨i, hi, rfl, hb⟩ := hrel
                have hfin : Below w.heap.size w wr := hbw.trans (hb.mono (Nat.le_of_lt hws))
                have hsz := hb.size
                by_cases hlt : i < J
                · obtain ⟨p, e1, g1⟩ := HG.out i hlt
                  obtain ⟨b, o, rfl, hbB, hc⟩ := (r.below hfin).at_ i _ e1
                  obtain ⟨pc, pn⟩ := p
                  have hp0 := hc 0 _ rfl
                  have hp1 := hc 1 _ rfl
                  simp only [Nat.add_zero] at hp0
                  clear hc e1
                  have hg1 : rightB pc pn = true := g1
                  clear g1
                  have hil : i < xs.length := by omega
                  go_wp2_with (go_at_call 18; refine (rightr_any _ _ _).mono ?_; rintro e w' ⟨rfl, rfl⟩)
                  go_roundw
                  case rel => exact ⟨i + 1, by omega, by go_num, (hb.alloc hsz _).alloc (by simp; omega) _⟩
                  case measure => simp [intOf]; omega
                · obtain rfl : i = J := by omega
                  by_cases hend : i < xs.length
                  · obtain ⟨p, e1, hg⟩ := HB.out hend
                    have F := Lib.hid (E4.out hend)
                    obtain ⟨b, o, rfl, hbB, hc⟩ := (r.below hfin).at_ i _ e1
                    obtain ⟨pc, pn⟩ := p
                    have hp0 := hc 0 _ rfl
                    have hp1 := hc 1 _ rfl
                    simp only [Nat.add_zero] at hp0
                    clear hc e1
                    simp only at hg
                    go_wp2_with (go_at_call 18; refine (rightr_any _ _ _).mono ?_; rintro e w' ⟨rfl, rfl⟩)
                    go_ret
                    exact ⟨ret_i1 F.out.symm, (hfin.alloc (by omega) _).alloc (by simp; omega) _⟩
                  · have F := Lib.hid (E0.out (by omega))
                    go_wp2
                    go_ret
                    exact ⟨ret_i1 F.out.symm, hfin⟩
            · have F := Lib.hid (inoE_form (xs := xs) hA hB fun h => h5 h.1)
              by_cases q1 : (8 : Int) < (xs.length : Int)
              · skip
                go_enter Try.func116, Try.ntmps116
                go_wp2
                go_ret
                exact ⟨ret_i1 F.out.symm, hbw⟩
              · have q1' : decide ((8 : Int) < (xs.length : Int)) = false := by simpa using q1
                by_cases q2 : 512 * (xs.length : Int) < s
                · skip
                  go_enter Try.func116, Try.ntmps116
                  go_wp2
                  go_ret
                  exact ⟨ret_i1 F.out.symm, hbw⟩
                · have q3 : s + 512 ≤ 512 * (xs.length : Int) := by omega
                  have q2' : decide (512 * (xs.length : Int) < s) = false := by simpa using q2
                  go_enter Try.func116, Try.ntmps116
                  go_wp2
                  go_ret
                  exact ⟨ret_i1 F.out.symm, hbw⟩
  · by_cases h1 : g < 0
    · have F := Lib.hid (inoE_arg (k := 2) (g := g) (s := s) (xs := xs) (by omega))
      go_enter Try.func116, Try.ntmps116
      go_wp2
      go_ret
      exact ⟨ret_i1 F.out.symm, hbw⟩
    · by_cases h2 : 2147483647 < g
      · have F := Lib.hid (inoE_arg (k := 2) (g := g) (s := s) (xs := xs) (by omega))
        go_enter Try.func116, Try.ntmps116
        go_wp2
        go_ret
        exact ⟨ret_i1 F.out.symm, hbw⟩
      · have hA : ¬ (((2 : Int) ≠ 1 ∧ (2 : Int) ≠ 2) ∨ g < 0 ∨ 2147483647 < g) := by omega
        have g1' : decide (g < 0) = false := by simpa using h1
        have g2' : decide (2147483647 < g) = false := by simpa using h2
        by_cases h3 : s < 0
        · have F := Lib.hid (inoE_large (xs := xs) (s := s) hA (by omega))
          go_enter Try.func116, Try.ntmps116
          go_wp2
          go_ret
          exact ⟨ret_i1 F.out.symm, hbw⟩
        · by_cases h4 : 4096 < s
          · have F := Lib.hid (inoE_large (xs := xs) (s := s) hA (by omega))
            go_enter Try.func116, Try.ntmps116
            go_wp2
            go_ret
            exact ⟨ret_i1 F.out.symm, hbw⟩
          · have hB : ¬ (s < 0 ∨ 4096 < s) := by omega
            by_cases h5 : (xs.length : Int) = (s + 511) / 512
            · obtain ⟨J, hJ, hgood, hbad⟩ := ino_to xs
              have HG := Lib.hid hgood
              have HB := Lib.hid hbad
              have E0 : Hid (J = xs.length → inoE 2 g s xs = 0) := fun e => inoE_ok hA hB h5 (by rw [← e]; exact hgood)
              have E4 : Hid (J < xs.length → inoE 2 g s xs = 4) := fun e => inoE_form hA hB fun h => by
                obtain ⟨p, e1, e2⟩ := hbad e
                obtain ⟨p', e1', e2'⟩ := h.2 J e
                rw [e1] at e1'; injection e1' with e1'; subst e1'
                rw [e2] at e2'; cases e2'
              clear hgood hbad hA hB
              have q1 : ¬ (8 : Int) < (xs.length : Int) := by omega
              have q2 : ¬ 512 * (xs.length : Int) < s := by omega
              have q3 : ¬ s + 512 ≤ 512 * (xs.length : Int) := by omega
              go_enter Try.func116, Try.ntmps116
              go_wp2
              obtain ⟨hb0, hb1, hb2, hb3⟩ := box4 w (.int .i64 2) (.int .i64 g) (.int .i64 s) (.slice A xs.length c) 116
              have hws : w.heap.size < (w.alloc (.cells #[.int .i64 2, .int .i64 g, .int .i64 s, .slice A xs.length c] 116)).heap.size := by simp
              generalize w.alloc (.cells #[.int .i64 2, .int .i64 g, .int .i64 s, .slice A xs.length c] 116) = wa at *
              go_loopw [57] (fun v18 wr => ∃ i : Nat, i ≤ J ∧ v18 = .int .i64 i ∧ Below wa.heap.size wa wr) (fun v18 _ => xs.length - (intOf v18).toNat)
              case atStart => exact ⟨0, Nat.zero_le _, rfl, Below.refl _ _⟩
              case round =>
                obtain ⟨i, hi, rfl, hb⟩ := hrel
                have hfin : Below w.heap.size w wr := hbw.trans (hb.mono (Nat.le_of_lt hws))
                have hsz := hb.size
                by_cases hlt : i < J
                · obtain ⟨p, e1, g1⟩ := HG.out i hlt
                  obtain ⟨b, o, rfl, hbB, hc⟩ := (r.below hfin).at_ i _ e1
                  obtain ⟨pc, pn⟩ := p
                  have hp0 := hc 0 _ rfl
                  have hp1 := hc 1 _ rfl
                  simp only [Nat.add_zero] at hp0
                  clear hc e1
                  have hg1 : rightB pc pn = true := g1
                  clear g1
                  have hil : i < xs.length := by omega
                  go_wp2_with (go_at_call 18; refine (rightr_any _ _ _).mono ?_; rintro e w' ⟨rfl, rfl⟩)
                  go_roundw
                  case rel => exact ⟨i + 1, by omega, by go_num, (hb.alloc hsz _).alloc (by simp; omega) _⟩
                  case measure => simp [intOf]; omega
                · obtain rfl : i = J := by omega
                  by_cases hend : i < xs.length
                  · obtain ⟨p, e1, hg⟩ := HB.out hend
                    have F := Lib.hid (E4.out hend)
                    obtain ⟨b, o, rfl, hbB, hc⟩ := (r.below hfin).at_ i _ e1
                    obtain ⟨pc, pn⟩ := p
                    have hp0 := hc 0 _ rfl
                    have hp1 := hc 1 _ rfl
                    simp only [Nat.add_zero] at hp0
                    clear hc e1
                    simp only at hg
                    go_wp2_with (go_at_call 18; refine (rightr_any _ _ _).mono ?_; rintro e w' ⟨rfl, rfl⟩)
                    go_ret
                    exact ⟨ret_i1 F.out.symm, (hfin.alloc (by omega) _).alloc (by simp; omega) _⟩
                  · have F := Lib.hid (E0.out (by omega))
                    go_wp2
                    go_ret
                    exact ⟨ret_i1 F.out.symm, hfin⟩
            · have F := Lib.hid (inoE_form (xs := xs) hA hB fun h => h5 h.1)
              by_cases q1 : (8 : Int) < (xs.length : Int)
              · skip
                go_enter Try.func116, Try.ntmps116
                go_wp2
                go_ret
                exact ⟨ret_i1 F.out.symm, hbw⟩
              · have q1' : decide ((8 : Int) < (xs.length : Int)) = false := by simpa using q1
                by_cases q2 : 512 * (xs.length : Int) < s
                · skip
                  go_enter Try.func116, Try.ntmps116
                  go_wp2
                  go_ret
                  exact ⟨ret_i1 F.out.symm, hbw⟩
                · have q3 : s + 512 ≤ 512 * (xs.length : Int) := by omega
                  have q2' : decide (512 * (xs.length : Int) < s) = false := by simpa using q2
                  go_enter Try.func116, Try.ntmps116
                  go_wp2
                  go_ret
                  exact ⟨ret_i1 F.out.symm, hbw⟩
end Go.Proofs.Ytjmgocfoimhmjaa
