/- imap.Check and linenref.Imap, walked. -/
import Derived.Test.YtgiblnfdadbapaaImapP
namespace Go.Proofs.Ytgiblnfdadbapaa
open Go.RowKit

/-- A struct of two cells, boxed. -/
theorem box2 (w : World) (v0 v1 : Value) (t : TypeId) : (w.alloc (.cells #[v0, v1] t)).cell? ⟨w.heap.size, 0, none⟩ = some v0 ∧ (w.alloc (.cells #[v0, v1] t)).cell? ⟨w.heap.size, 1, none⟩ = some v1 := by
  constructor <;> (unfold World.cell?; rw [heap_alloc_new w _]; rfl)

set_option maxRecDepth 20000 in
set_option maxHeartbeats 1000000 in
theorem imapc_any (A : Option Addr) (n c : Nat) (xs : List PlaceD) (A' : Option Addr) (n' c' : Nat) (gs : List Int) (w : World) (r : RowsIn w w.heap.size A n c PlaceD.cells 2 xs) (r' : RowsIn w w.heap.size A' n' c' (fun z => [.int .i64 z]) 1 gs) :
    Calls Try.prog 6 #[.agg #[.slice A n c, .slice A' n' c']] w fun e w' => e = .returned (.int .i64 (impE xs gs)) ∧ Below w.heap.size w w' := by
  have hlen := r.len
  have hlen' := r'.len
  subst hlen
  subst hlen'
  have hbw : Below w.heap.size w (w.alloc (.cells #[.slice A xs.length c, .slice A' gs.length c'] 25)) := (Below.refl _ _).alloc (Nat.le_refl _) _
  by_cases h1 : xs.length = 48
  · by_cases h2 : gs.length = 48
    · obtain ⟨J, hJ, hgood, hbad, hE0, hE4⟩ := imap_to xs gs h1 h2
      have HG := Lib.hid hgood
      have HB := Lib.hid hbad
      have E0 := Lib.hid hE0
      have E4 := Lib.hid hE4
      clear hgood hbad hE0 hE4
      rw [h1, h2] at hbw ⊢
      rw [h1] at r
      rw [h2] at r'
      clear h1 h2
      go_enter Try.func6, Try.ntmps6
      go_wp2
      obtain ⟨hb0, hb1⟩ := box2 w (.slice A 48 c) (.slice A' 48 c') 25
      have hws : w.heap.size < (w.alloc (.cells #[.slice A 48 c, .slice A' 48 c'] 25)).heap.size := by simp
      generalize w.alloc (.cells #[.slice A 48 c, .slice A' 48 c'] 25) = wa at *
      go_loopw [18] (fun v18 wr => ∃ k : Nat, k ≤ J ∧ v18 = .int .i64 k ∧ Below wa.heap.size wa wr) (fun v18 _ => 48 - (intOf v18).toNat)
      case atStart => exact ⟨0, Nat.zero_le _, rfl, Below.refl _ _⟩
      case round =>
        obtain ⟨k, hk, rfl, hb⟩ := hrel
        have hfin : Below w.heap.size w wr := hbw.trans (hb.mono (by omega))
        have hsz := hb.size
        have hc0 : wr.cell? ⟨w.heap.size, 0, none⟩ = some (.slice A 48 c) := (hb.cell (p := ⟨w.heap.size, 0, none⟩) hws).trans hb0
        have hc1 : wr.cell? ⟨w.heap.size, 1, none⟩ = some (.slice A' 48 c') := (hb.cell (p := ⟨w.heap.size, 1, none⟩) hws).trans hb1
        have hwl : w.heap.size < wr.heap.size := by omega
        by_cases hlt : k < J
        · obtain ⟨p, g, e1, e2, g1, g2, g3⟩ := HG.out k hlt
          obtain ⟨b, o, rfl, hbB, hc⟩ := (r.below hfin).at_ k _ e1
          obtain ⟨b', o', rfl, hbB', hc'⟩ := (r'.below hfin).one e2
          obtain ⟨pc, pn⟩ := p
          have hp0 := hc 0 _ rfl
          have hp1 := hc 1 _ rfl
          simp only [Nat.add_zero] at hp0
          clear hc e1 e2
          have hg1 : rightB pc pn = true := g1
          clear g1
          have hbl : b < wr.heap.size := by omega
          have hbl' : b' < wr.heap.size := by omega
          go_wp2_with (go_at_call 14; refine (right_any _ _ _).mono ?_; rintro e w' ⟨rfl, rfl⟩)
          go_roundw
          case rel => exact ⟨k + 1, by omega, by go_num, (hb.alloc hsz _).alloc (by simp; omega) _⟩
          case measure => simp [intOf]; omega
        · obtain rfl : k = J := by omega
          by_cases hend : (k : Int) < 48
          · obtain ⟨p, g, e1, e2, hg⟩ := HB.out (by omega)
            have hE := E4.out (by omega)
            have F := Lib.hid hE
            clear hE
            obtain ⟨b, o, rfl, hbB, hc⟩ := (r.below hfin).at_ k _ e1
            obtain ⟨b', o', rfl, hbB', hc'⟩ := (r'.below hfin).one e2
            obtain ⟨pc, pn⟩ := p
            have hp0 := hc 0 _ rfl
            have hp1 := hc 1 _ rfl
            simp only [Nat.add_zero] at hp0
            clear hc e1 e2
            have hbl : b < wr.heap.size := by omega
            have hbl' : b' < wr.heap.size := by omega
            rcases hg with hg1 | ⟨hg1, hg2⟩ | ⟨hg1, hg2, hg3⟩
            all_goals
              simp only at hg1
              go_wp2_with (go_at_call 14; refine (right_any _ _ _).mono ?_; rintro e w' ⟨rfl, rfl⟩)
              go_ret
              exact ⟨ret_i1 F.out.symm, (hfin.alloc (by omega) _).alloc (by simp; omega) _⟩
          · have F := Lib.hid (E0.out (by omega))
            go_wp2
            go_ret
            exact ⟨ret_i1 F.out.symm, hfin⟩
    · have F := Lib.hid (impE_no (xs := xs) (gs := gs) fun h => h2 h.2.1)
      have hne : ((gs.length : Int) != 48) = true := bne_iff_ne.2 (by omega)
      have hne2 : ¬ (gs.length : Int) = 48 := by omega
      rw [h1] at hbw ⊢
      go_enter Try.func6, Try.ntmps6
      go_wp2
      go_ret
      exact ⟨ret_i1 F.out.symm, hbw⟩
  · have F := Lib.hid (impE_no (xs := xs) (gs := gs) fun h => h1 h.1)
    have hne : ((xs.length : Int) != 48) = true := bne_iff_ne.2 (by omega)
    have hne2 : ¬ (xs.length : Int) = 48 := by omega
    go_enter Try.func6, Try.ntmps6
    go_wp2
    go_ret
    exact ⟨ret_i1 F.out.symm, hbw⟩

set_option maxRecDepth 20000 in
set_option maxHeartbeats 1000000 in
theorem imapr_any (A : Option Addr) (n c : Nat) (xs : List PlaceD) (A' : Option Addr) (n' c' : Nat) (gs : List Int) (w : World) (r : RowsIn w w.heap.size A n c PlaceD.cells 2 xs) (r' : RowsIn w w.heap.size A' n' c' (fun z => [.int .i64 z]) 1 gs) :
    Calls Try.prog 7 #[.agg #[.slice A n c, .slice A' n' c']] w fun e w' => e = .returned (.int .i64 (impE xs gs)) ∧ Below w.heap.size w w' := by
  have hlen := r.len
  have hlen' := r'.len
  subst hlen
  subst hlen'
  have hbw : Below w.heap.size w (w.alloc (.cells #[.slice A xs.length c, .slice A' gs.length c'] 25)) := (Below.refl _ _).alloc (Nat.le_refl _) _
  by_cases h1 : xs.length = 48
  · by_cases h2 : gs.length = 48
    · obtain ⟨J, hJ, hgood, hbad, hE0, hE4⟩ := imap_to xs gs h1 h2
      have HG := Lib.hid hgood
      have HB := Lib.hid hbad
      have E0 := Lib.hid hE0
      have E4 := Lib.hid hE4
      clear hgood hbad hE0 hE4
      rw [h1, h2] at hbw ⊢
      rw [h1] at r
      rw [h2] at r'
      clear h1 h2
      go_enter Try.func7, Try.ntmps7
      go_wp2
      obtain ⟨hb0, hb1⟩ := box2 w (.slice A 48 c) (.slice A' 48 c') 25
      have hws : w.heap.size < (w.alloc (.cells #[.slice A 48 c, .slice A' 48 c'] 25)).heap.size := by simp
      generalize w.alloc (.cells #[.slice A 48 c, .slice A' 48 c'] 25) = wa at *
      go_loopw [14] (fun v18 wr => ∃ k : Nat, k ≤ J ∧ v18 = .int .i64 k ∧ Below wa.heap.size wa wr) (fun v18 _ => 48 - (intOf v18).toNat)
      case atStart => exact ⟨0, Nat.zero_le _, rfl, Below.refl _ _⟩
      case round =>
        obtain ⟨k, hk, rfl, hb⟩ := hrel
        have hfin : Below w.heap.size w wr := hbw.trans (hb.mono (by omega))
        have hsz := hb.size
        have hc0 : wr.cell? ⟨w.heap.size, 0, none⟩ = some (.slice A 48 c) := (hb.cell (p := ⟨w.heap.size, 0, none⟩) hws).trans hb0
        have hc1 : wr.cell? ⟨w.heap.size, 1, none⟩ = some (.slice A' 48 c') := (hb.cell (p := ⟨w.heap.size, 1, none⟩) hws).trans hb1
        have hwl : w.heap.size < wr.heap.size := by omega
        by_cases hlt : k < J
        · obtain ⟨p, g, e1, e2, g1, g2, g3⟩ := HG.out k hlt
          obtain ⟨b, o, rfl, hbB, hc⟩ := (r.below hfin).at_ k _ e1
          obtain ⟨b', o', rfl, hbB', hc'⟩ := (r'.below hfin).one e2
          obtain ⟨pc, pn⟩ := p
          have hp0 := hc 0 _ rfl
          have hp1 := hc 1 _ rfl
          simp only [Nat.add_zero] at hp0
          clear hc e1 e2
          have hg1 : rightB pc pn = true := g1
          clear g1
          have hbl : b < wr.heap.size := by omega
          have hbl' : b' < wr.heap.size := by omega
          go_wp2_with (go_at_call 15; refine (rightr_any _ _ _).mono ?_; rintro e w' ⟨rfl, rfl⟩)
          go_roundw
          case rel => exact ⟨k + 1, by omega, by go_num, hb.alloc hsz _⟩
          case measure => simp [intOf]; omega
        · obtain rfl : k = J := by omega
          by_cases hend : (k : Int) < 48
          · obtain ⟨p, g, e1, e2, hg⟩ := HB.out (by omega)
            have hE := E4.out (by omega)
            have F := Lib.hid hE
            clear hE
            obtain ⟨b, o, rfl, hbB, hc⟩ := (r.below hfin).at_ k _ e1
            obtain ⟨b', o', rfl, hbB', hc'⟩ := (r'.below hfin).one e2
            obtain ⟨pc, pn⟩ := p
            have hp0 := hc 0 _ rfl
            have hp1 := hc 1 _ rfl
            simp only [Nat.add_zero] at hp0
            clear hc e1 e2
            have hbl : b < wr.heap.size := by omega
            have hbl' : b' < wr.heap.size := by omega
            rcases hg with hg1 | ⟨hg1, hg2⟩ | ⟨hg1, hg2, hg3⟩
            all_goals
              simp only at hg1
              go_wp2_with (go_at_call 15; refine (rightr_any _ _ _).mono ?_; rintro e w' ⟨rfl, rfl⟩)
              go_ret
              exact ⟨ret_i1 F.out.symm, hfin.alloc (by omega) _⟩
          · have F := Lib.hid (E0.out (by omega))
            go_wp2
            go_ret
            exact ⟨ret_i1 F.out.symm, hfin⟩
    · have F := Lib.hid (impE_no (xs := xs) (gs := gs) fun h => h2 h.2.1)
      have hne : ((gs.length : Int) != 48) = true := bne_iff_ne.2 (by omega)
      have hne2 : ¬ (gs.length : Int) = 48 := by omega
      rw [h1] at hbw ⊢
      go_enter Try.func7, Try.ntmps7
      go_wp2
      go_ret
      exact ⟨ret_i1 F.out.symm, hbw⟩
  · have F := Lib.hid (impE_no (xs := xs) (gs := gs) fun h => h1 h.1)
    have hne : ((xs.length : Int) != 48) = true := bne_iff_ne.2 (by omega)
    have hne2 : ¬ (xs.length : Int) = 48 := by omega
    go_enter Try.func7, Try.ntmps7
    go_wp2
    go_ret
    exact ⟨ret_i1 F.out.symm, hbw⟩
end Go.Proofs.Ytgiblnfdadbapaa
