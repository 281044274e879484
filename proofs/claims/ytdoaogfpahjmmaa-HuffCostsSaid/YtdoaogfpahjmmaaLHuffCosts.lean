/- The law HuffCosts, walked: it returns true for all arguments. -/
import Derived.Test.YtdoaogfpahjmmaaCostW
namespace Go.Proofs.Ytdoaogfpahjmmaa.lHuffCosts
open Go.RowKit

set_option maxHeartbeats 400000 in
theorem walk (A : Option Addr) (n c : Nat) (xs : List Int) (A' : Option Addr) (n' c' : Nat) (ys : List Int) (w : World) (r : RowsIn w w.heap.size A n c (fun z => [.int .i64 z]) 1 xs) (_o0 : ∀ z ∈ xs, (fun z => (Lit.int .i64 z).wf = true) z) (_s0 : c * 8 ≤ 140737488351232) (r' : RowsIn w w.heap.size A' n' c' (fun z => [.int .i64 z]) 1 ys) (_o1 : ∀ z ∈ ys, (fun z => (Lit.int .i64 z).wf = true) z) (_s1 : c' * 8 ≤ 140737488351232) :
    Calls Try.prog 3 #[.slice A n c, .slice A' n' c'] w fun e w' => e = .returned (.bool true) ∧ Below w.heap.size w w' := by
  clear _o0 _s0 _o1 _s1
  have H1 := Lib.hid (cost_any A n c xs A' n' c' ys _ _ w r r')
  have H2 := Lib.hid (costr_any A n c xs A' n' c' ys _ _ w r r')
  generalize costV xs ys = v at *
  generalize costE xs ys = ee at *
  clear r r'
  go_enter Try.func3, Try.ntmps3
  go_wp2_with (first
    | (go_at_call 13; refine H1.out.mono ?_; rintro e w' ⟨rfl, rfl⟩)
    | (go_at_call 14; refine H2.out.mono ?_; rintro e w' ⟨rfl, rfl⟩))
  go_ret
  exact ⟨rfl, Below.refl _ _⟩
end Go.Proofs.Ytdoaogfpahjmmaa.lHuffCosts
