/- The law GlobSays, walked: where the tables of unicode/utf8 stand, it returns true for every pattern and every name. -/
import Derived.Test.YtgidfmdbaimcnaaDoorGrG
namespace Go.Proofs.YtgidfmdbaimcnaaDoor.lGlobSays
open Go.RowKit

set_option maxRecDepth 20000 in
set_option maxHeartbeats 2000000 in
theorem walk (a0 a1 : ByteArray) (w : World) (hT : TabsR w) :
    Calls Tryd.prog 3 #[.string a0, .string a1] w fun e w' => e = .returned (.bool true) ∧ Below w.heap.size w w' := by
  have H1 := Lib.hid (match_any a0 a1 w hT)
  have H2 : Hid (∀ W, Calls Tryd.prog 5 #[.string a0, .string a1] W (MtPost (gbV a0 a1).1 (gbV a0 a1).2 W)) := fun W => rglob_any a0 a1 W
  unfold MtPost at H1 H2
  clear hT
  generalize gbV a0 a1 = V at *
  obtain ⟨B, E⟩ := V
  simp only at H1 H2
  cases B
  all_goals
    go_enter Tryd.func3, Tryd.ntmps3
    go_wp2_with (first
      | (go_at_call 4; refine H1.out.mono ?_; rintro e w1 ⟨rfl, hb1⟩)
      | (go_at_call 5; refine (H2.out _).mono ?_; rintro e w2 ⟨rfl, hb2⟩; have HB2 := hb1.trans (hb2.mono hb1.size)))
    go_ret
    exact ⟨rfl, HB2⟩
end Go.Proofs.YtgidfmdbaimcnaaDoor.lGlobSays
