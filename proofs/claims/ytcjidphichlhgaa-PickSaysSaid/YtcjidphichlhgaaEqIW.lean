/- slices.Equal at ints, walked. -/
import Derived.Test.YtcjidphichlhgaaFirst
import Derived.Test.YtcjidphichlhgaaTypes
import Derived.WalkSpells
import Derived.Lib.Hide
import Derived.Deep.QuietTactic
import Derived.BigQuiet
namespace Go.Proofs.Ytcjidphichlhgaa
open Go.RowKit

open Classical in
noncomputable def eqB {α : Type} (xs ys : List α) : Bool := if xs = ys then true else false
theorem eqB_yes {α : Type} {xs ys : List α} (h : xs = ys) : eqB xs ys = true := by unfold eqB; rw [if_pos h]
theorem eqB_no {α : Type} {xs ys : List α} (h : xs ≠ ys) : eqB xs ys = false := by unfold eqB; rw [if_neg h]
theorem eq_to {α : Type} (xs ys : List α) (h : xs.length = ys.length) :
    ∃ J, J ≤ xs.length ∧ (∀ i, i < J → ∃ x, xs[i]? = some x ∧ ys[i]? = some x) ∧ (J < xs.length → ∃ x y, xs[J]? = some x ∧ ys[J]? = some y ∧ x ≠ y) ∧ (J = xs.length → eqB xs ys = true) ∧ (J < xs.length → eqB xs ys = false) := by
  classical
  obtain ⟨J, a, b, c⟩ := first_to (G := fun i => ∃ x, xs[i]? = some x ∧ ys[i]? = some x) (B := fun i => ∃ x y, xs[i]? = some x ∧ ys[i]? = some y ∧ x ≠ y) xs.length (fun i hi => by
    have e1 := List.getElem?_eq_getElem (l := xs) (i := i) hi
    have e2 := List.getElem?_eq_getElem (l := ys) (i := i) (by omega)
    by_cases e : xs[i] = ys[i]'(by omega)
    · exact .inl ⟨_, e1, by rw [e2, e]⟩
    · exact .inr ⟨_, _, e1, e2, e⟩)
  refine ⟨J, a, b, c, fun e => eqB_yes ?_, fun hJ => eqB_no ?_⟩
  · apply List.ext_getElem?
    intro i
    by_cases hi : i < xs.length
    · obtain ⟨x, h1, h2⟩ := b i (by omega)
      rw [h1, h2]
    · rw [List.getElem?_eq_none (by omega), List.getElem?_eq_none (by omega)]
  · intro e
    obtain ⟨x, y, h1, h2, h3⟩ := c hJ
    rw [e, h2] at h1
    injection h1 with h1
    exact h3 h1.symm

set_option maxRecDepth 20000 in
set_option maxHeartbeats 1000000 in
theorem eqi_any (A : Option Addr) (n c : Nat) (xs : List Int) (A' : Option Addr) (n' c' : Nat) (ys : List Int) (B B' : Nat) (w : World) (r : RowsIn w B A n c (fun z => [.int .i64 z]) 1 xs) (r' : RowsIn w B' A' n' c' (fun z => [.int .i64 z]) 1 ys) :
    Calls Try.prog 6 #[.slice A n c, .slice A' n' c'] w fun e w' => e = .returned (.bool (eqB xs ys)) ∧ Below w.heap.size w w' := by
  have hn := r.len
  have hn' := r'.len
  subst hn
  subst hn'
  have htop : (xs.length : Int) ≤ 9223372036854775807 := by have h1 := r.le; have h2 := r.top; unfold maxLen at h2; omega
  by_cases hl : xs.length = ys.length
  · obtain ⟨J, hJ, hg, hb, h1, h2⟩ := eq_to xs ys hl
    have HG := Lib.hid hg
    have HB := Lib.hid hb
    have E1 := Lib.hid h1
    have E2 := Lib.hid h2
    clear hg hb h1 h2
    have hli : (xs.length : Int) = (ys.length : Int) := by omega
    rw [← hl] at r' ⊢
    clear hl hli
    go_enter Try.func6, Try.ntmps6
    go_wp2
    go_loopw [13] (fun v13 wr => ∃ i : Nat, i ≤ J ∧ v13 = .int .i64 i ∧ Below w.heap.size w wr ∧ (∀ p : Addr, wr.cell? p = w.cell? p)) (fun v13 _ => xs.length - (intOf v13).toNat)
    case atStart => exact ⟨0, Nat.zero_le _, rfl, Below.refl _ _, fun _ => rfl⟩
    case round =>
      obtain ⟨i, hi, rfl, hbw, hce⟩ := hrel
      have RK := Lib.hid hce
      clear hce
      by_cases hlt : i < J
      · obtain ⟨x, e1, e2⟩ := HG.out i hlt
        have hil : (i : Int) < (xs.length : Int) := by omega
        obtain ⟨b, o, rfl, hbB, hc⟩ := (r.keep (w' := wr) (fun p _ => RK.out p)).one e1
        obtain ⟨b', o', rfl, hbB', hc'⟩ := (r'.keep (w' := wr) (fun p _ => RK.out p)).one e2
        clear e1 e2
        go_wp2
        go_quiet (fail)
        go_wp2
        go_roundw
        case rel => exact ⟨i + 1, by omega, by go_num, below_drewN hbw _, fun p => RK.out p⟩
        case measure => simp [intOf]; omega
      · obtain rfl : i = J := by omega
        by_cases hend : i < xs.length
        · obtain ⟨x, y, e1, e2, hne⟩ := HB.out hend
          have F := Lib.hid (E2.out hend)
          have hil : (i : Int) < (xs.length : Int) := by omega
          obtain ⟨b, o, rfl, hbB, hc⟩ := (r.keep (w' := wr) (fun p _ => RK.out p)).one e1
          obtain ⟨b', o', rfl, hbB', hc'⟩ := (r'.keep (w' := wr) (fun p _ => RK.out p)).one e2
          have hne' : (x != y) = true := bne_iff_ne.2 hne
          clear e1 e2
          go_wp2
          go_quiet (fail)
          go_wp2
          go_ret
          exact ⟨ret_b1 F.out.symm, below_drewN hbw _⟩
        · have F := Lib.hid (E1.out (by omega))
          go_wp2
          go_ret
          exact ⟨ret_b1 F.out.symm, hbw⟩
  · have F := Lib.hid (eqB_no (xs := xs) (ys := ys) fun h => hl (by rw [h]))
    have hne : ((xs.length : Int) != (ys.length : Int)) = true := bne_iff_ne.2 (by omega)
    have hne2 : ¬ (xs.length : Int) = (ys.length : Int) := by omega
    go_enter Try.func6, Try.ntmps6
    go_wp2
    go_ret
    exact ⟨ret_b1 F.out.symm, Below.refl _ _⟩
end Go.Proofs.Ytcjidphichlhgaa
