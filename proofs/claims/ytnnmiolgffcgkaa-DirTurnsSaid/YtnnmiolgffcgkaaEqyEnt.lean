/- slices.Equal at Ent, of two slices that read as the same list, walked. -/
import Derived.Test.YtnnmiolgffcgkaaTypes
import Derived.Test.YtnnmiolgffcgkaaFirst
import Derived.Test.YtnnmiolgffcgkaaOwn
import Derived.Deep.QuietTactic
import Derived.BigQuiet
namespace Go.Proofs.Ytnnmiolgffcgkaa
open Go.RowKit

set_option maxRecDepth 20000 in
set_option maxHeartbeats 1000000 in
theorem eqyEnt (A : Option Addr) (n c : Nat) (xs : List EntD) (A' : Option Addr) (n' c' : Nat) (B B' : Nat) (w : World) (r : RowsIn w B A n c EntD.cells 2 xs) (r' : RowsIn w B' A' n' c' EntD.cells 2 xs) :
    Calls Try.prog 32 #[.slice A n c, .slice A' n' c'] w fun e w' => e = .returned (.bool true) ∧ Below w.heap.size w w' := by
  have hn := r.len
  have hn' := r'.len
  subst hn
  subst hn'
  have htop : (xs.length : Int) ≤ 9223372036854775807 := by have h1 := r.le; have h2 := r.top; unfold maxLen at h2; omega
  go_enter Try.func32, Try.ntmps32
  go_wp2
  go_loopw [13] (fun v13 wr => ∃ i : Nat, i ≤ xs.length ∧ v13 = .int .i64 i ∧ Below w.heap.size w wr ∧ Hid (∀ p : Addr, wr.cell? p = w.cell? p)) (fun v13 _ => xs.length - (intOf v13).toNat)
  case atStart => exact ⟨0, Nat.zero_le _, rfl, Below.refl _ _, fun _ => rfl⟩
  case round =>
    obtain ⟨i, hi, rfl, hbw, RK⟩ := hrel
    by_cases hlt : i < xs.length
    · have e1 := List.getElem?_eq_getElem hlt
      generalize xs[i] = x at e1
      have hil : (i : Int) < (xs.length : Int) := by omega
      obtain ⟨b, o, rfl, hbB, hc⟩ := (r.keep (w' := wr) (fun p _ => RK.out p)).at_ i _ e1
      obtain ⟨b', o', rfl, hbB', hc'⟩ := (r'.keep (w' := wr) (fun p _ => RK.out p)).at_ i _ e1
      obtain ⟨f0, f1⟩ := x
      have hp0 := hc 0 _ rfl
      have hq0 := hc' 0 _ rfl
      have hp1 := hc 1 _ rfl
      have hq1 := hc' 1 _ rfl
      simp only [Nat.add_zero] at hp0 hq0
      clear hc hc'
      clear e1
      go_wp2
      go_quiet (fail)
      go_wp2
      go_roundw
      case rel => exact ⟨i + 1, by omega, by go_num, below_drewN hbw _, fun p => RK.out p⟩
      case measure => (simp [intOf]; try omega)
    · go_wp2
      go_ret
      exact ⟨rfl, hbw⟩
end Go.Proofs.Ytnnmiolgffcgkaa
