/- slices.Equal at places, walked. -/
import Derived.Test.YtgiblnfdadbapaaEqIW
import Derived.Test.YtgiblnfdadbapaaRightW
namespace Go.Proofs.Ytgiblnfdadbapaa
open Go.RowKit


set_option maxRecDepth 20000 in
set_option maxHeartbeats 1000000 in
theorem eqp_any (A : Option Addr) (n c : Nat) (xs : List PlaceD) (A' : Option Addr) (n' c' : Nat) (ys : List PlaceD) (B B' : Nat) (w : World) (r : RowsIn w B A n c PlaceD.cells 2 xs) (r' : RowsIn w B' A' n' c' PlaceD.cells 2 ys) :
    Calls Try.prog 16 #[.slice A n c, .slice A' n' c'] w fun e w' => e = .returned (.bool (eqB xs ys)) ∧ Below w.heap.size w w' := by
  have hn := r.len
  have hn' := r'.len
  subst hn
  subst hn'
  have htop : (xs.length : Int) ≤ 9223372036854775807 := by have h1 := r.le; have h2 := r.top; unfold maxLen at h2; omega
  by_cases hl : xs.length = ys.length
  · obtain ⟨J, hJ, hg, hb, h1, h2⟩ := eq_to xs ys hl
    have HG := Lib.hid hg
    have HB := Lib.hid hb
    have E1 := Lib.hid h1
    have E2 := Lib.hid h2
    clear hg hb h1 h2
    have hli : (xs.length : Int) = (ys.length : Int) := by omega
    rw [← hl] at r' ⊢
    clear hl hli
    go_enter Try.func16, Try.ntmps16
    go_wp2
    go_loopw [13] (fun v13 wr => ∃ i : Nat, i ≤ J ∧ v13 = .int .i64 i ∧ Below w.heap.size w wr ∧ (∀ p : Addr, wr.cell? p = w.cell? p)) (fun v13 _ => xs.length - (intOf v13).toNat)
    case atStart => exact ⟨0, Nat.zero_le _, rfl, Below.refl _ _, fun _ => rfl⟩
    case round =>
      obtain ⟨i, hi, rfl, hbw, hce⟩ := hrel
      have RK := Lib.hid hce
      clear hce
      by_cases hlt : i < J
      · obtain ⟨x, e1, e2⟩ := HG.out i hlt
        have hil : (i : Int) < (xs.length : Int) := by omega
        obtain ⟨b, o, rfl, hbB, hc⟩ := (r.keep (w' := wr) (fun p _ => RK.out p)).at_ i _ e1
        obtain ⟨b', o', rfl, hbB', hc'⟩ := (r'.keep (w' := wr) (fun p _ => RK.out p)).at_ i _ e2
        obtain ⟨pc, pn⟩ := x
        have hp0 := hc 0 _ rfl
        have hp1 := hc 1 _ rfl
        have hq0 := hc' 0 _ rfl
        have hq1 := hc' 1 _ rfl
        simp only [Nat.add_zero] at hp0 hq0
        clear hc hc'
        clear e1 e2
        go_wp2
        go_quiet (fail)
        go_wp2
        go_roundw
        case rel => exact ⟨i + 1, by omega, by go_num, below_drewN hbw _, fun p => RK.out p⟩
        case measure => simp [intOf]; omega
      · obtain rfl : i = J := by omega
        by_cases hend : i < xs.length
        · obtain ⟨x, y, e1, e2, hne⟩ := HB.out hend
          have F := Lib.hid (E2.out hend)
          have hil : (i : Int) < (xs.length : Int) := by omega
          obtain ⟨b, o, rfl, hbB, hc⟩ := (r.keep (w' := wr) (fun p _ => RK.out p)).at_ i _ e1
          obtain ⟨b', o', rfl, hbB', hc'⟩ := (r'.keep (w' := wr) (fun p _ => RK.out p)).at_ i _ e2
          obtain ⟨pc, pn⟩ := x
          obtain ⟨qc, qn⟩ := y
          have hp0 := hc 0 _ rfl
          have hp1 := hc 1 _ rfl
          have hq0 := hc' 0 _ rfl
          have hq1 := hc' 1 _ rfl
          simp only [Nat.add_zero] at hp0 hq0
          clear hc hc' e1 e2
          by_cases hcc : pc = qc
          · subst hcc
            have hnn : pn ≠ qn := fun h => hne (by rw [h])
            have hne' : (pn == qn) = false := beq_eq_false_iff_ne.2 hnn
            clear hne
            go_wp2
            go_quiet (fail)
            go_wp2
            go_ret
            exact ⟨ret_b1 F.out.symm, below_drewN hbw _⟩
          · have hne' : (pc == qc) = false := beq_eq_false_iff_ne.2 hcc
            clear hne
            go_wp2
            go_quiet (fail)
            go_wp2
            go_ret
            exact ⟨ret_b1 F.out.symm, below_drewN hbw _⟩
        · have F := Lib.hid (E1.out (by omega))
          go_wp2
          go_ret
          exact ⟨ret_b1 F.out.symm, hbw⟩
  · have F := Lib.hid (eqB_no (xs := xs) (ys := ys) fun h => hl (by rw [h]))
    have hne : ((xs.length : Int) != (ys.length : Int)) = true := bne_iff_ne.2 (by omega)
    have hne2 : ¬ (xs.length : Int) = (ys.length : Int) := by omega
    go_enter Try.func16, Try.ntmps16
    go_wp2
    go_ret
    exact ⟨ret_b1 F.out.symm, Below.refl _ _⟩
end Go.Proofs.Ytgiblnfdadbapaa
