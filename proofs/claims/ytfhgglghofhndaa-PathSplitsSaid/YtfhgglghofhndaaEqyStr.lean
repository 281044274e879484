/- slices.Equal at Str, of two slices that read as the same list, walked. -/
import Derived.Test.YtfhgglghofhndaaTypes
import Derived.Test.YtfhgglghofhndaaFirst
import Derived.Test.YtfhgglghofhndaaOwn
import Derived.Deep.QuietTactic
import Derived.BigQuiet
namespace Go.Proofs.Ytfhgglghofhndaa
open Go.RowKit

set_option maxRecDepth 20000 in
set_option maxHeartbeats 1000000 in
theorem eqyStr (A : Option Addr) (n c : Nat) (xs : List ByteArray) (A' : Option Addr) (n' c' : Nat) (B B' : Nat) (w : World) (r : RowsIn w B A n c (fun z => [.string z]) 1 xs) (r' : RowsIn w B' A' n' c' (fun z => [.string z]) 1 xs) :
    Calls Try.prog 39 #[.slice A n c, .slice A' n' c'] w fun e w' => e = .returned (.bool true) ∧ Below w.heap.size w w' := by
  have hn := r.len
  have hn' := r'.len
  subst hn
  subst hn'
  have htop : (xs.length : Int) ≤ 9223372036854775807 := by have h1 := r.le; have h2 := r.top; unfold maxLen at h2; omega
  go_enter Try.func39, Try.ntmps39
  go_wp2
  go_loopw [13] (fun v13 wr => ∃ i : Nat, i ≤ xs.length ∧ v13 = .int .i64 i ∧ Below w.heap.size w wr ∧ Hid (∀ p : Addr, wr.cell? p = w.cell? p)) (fun v13 _ => xs.length - (intOf v13).toNat)
  case atStart => exact ⟨0, Nat.zero_le _, rfl, Below.refl _ _, fun _ => rfl⟩
  case round =>
    obtain ⟨i, hi, rfl, hbw, RK⟩ := hrel
    by_cases hlt : i < xs.length
    · have e1 := List.getElem?_eq_getElem hlt
      generalize xs[i] = x at e1
      have hil : (i : Int) < (xs.length : Int) := by omega
      obtain ⟨b, o, rfl, hbB, hc⟩ := (r.keep (w' := wr) (fun p _ => RK.out p)).one e1
      obtain ⟨b', o', rfl, hbB', hc'⟩ := (r'.keep (w' := wr) (fun p _ => RK.out p)).one e1
      clear e1
      go_wp2
      go_quiet (fail)
      go_wp2
      go_roundw
      case rel => exact ⟨i + 1, by omega, by go_num, below_drewN hbw _, fun p => RK.out p⟩
      case measure => (simp [intOf]; try omega)
    · go_wp2
      go_ret
      exact ⟨rfl, hbw⟩
end Go.Proofs.Ytfhgglghofhndaa
