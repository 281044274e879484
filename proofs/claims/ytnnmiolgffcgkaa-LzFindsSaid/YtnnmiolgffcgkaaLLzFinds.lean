/- The law LzFinds, walked: it returns true for every text. -/
import Derived.Test.YtnnmiolgffcgkaaLfR
namespace Go.Proofs.Ytnnmiolgffcgkaa.lLzFinds
open Go.RowKit

set_option maxRecDepth 20000 in
set_option maxHeartbeats 400000 in
theorem walk (x0 : ByteArray) (w : World) (_w0 : x0.size ≤ 140737488351232) :
    Calls Try.prog 4 #[.string x0] w fun e w' => e = .returned (.bool true) ∧ Below w.heap.size w w' := by
  by_cases hs : x0.size ≤ 512
  · have H1 : Hid (Calls Try.prog 17 #[.string x0] w fun e w' => ∃ ao m cap, e = .returned (.tuple #[.slice ao m cap, .int .i64 0]) ∧ Lst x0 0 x0.size m ∧ Below w.heap.size w w') := (find_any x0 w).mono fun e w' h => by
      rcases h with ⟨h1, _⟩ | ⟨_, h2⟩
      · omega
      · exact h2
    have H2 : Hid (∀ W, Calls Try.prog 18 #[.string x0] W (FwPost x0 W)) := fun W => fewest_any x0 W hs
    have i0 : ¬ (512 : Int) < (x0.size : Int) := by omega
    go_enter Try.func4, Try.ntmps4
    go_wp2_with (first
      | (go_at_call 17; refine H1.out.mono ?_; rintro e w1 ⟨ao, m, cap, rfl, h2, h3⟩; have HL := Lib.hid h2; have HB := Lib.hid h3; clear h2 h3)
      | (go_at_call 18; refine (H2.out _).mono ?_; rintro e w2 ⟨m2, rfl, h4, h5⟩; obtain rfl := h4.uniq HL.out; have HB2 := Lib.hid (HB.out.trans (h5.mono HB.out.size)); clear h4 h5))
    go_ret
    exact ⟨rfl, HB2.out⟩
  · have i0 : (512 : Int) < (x0.size : Int) := by omega
    have H3 : Hid (Calls Try.prog 17 #[.string x0] w fun e w' => e = .returned (.tuple #[.slice none 0 0, .int .i64 2]) ∧ w' = w) := (find_any x0 w).mono fun e w' h => by
      rcases h with ⟨_, a, b⟩ | ⟨h1, _⟩
      · exact ⟨a, b⟩
      · exact absurd h1 hs
    go_enter Try.func4, Try.ntmps4
    go_wp2_with (go_at_call 17; refine H3.out.mono ?_; rintro e w1 ⟨rfl, rfl⟩)
    go_ret
    exact ⟨rfl, Below.refl _ _⟩
end Go.Proofs.Ytnnmiolgffcgkaa.lLzFinds
