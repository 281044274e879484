/- The law PickSays, walked: it returns true for all arguments. -/
import Derived.Test.YtcjidphichlhgaaPickG
import Derived.Test.YtcjidphichlhgaaEqIW
namespace Go.Proofs.Ytcjidphichlhgaa.lPickSays
open Go.RowKit Pk

def Whole (ls gs zs : List Int) : Prop := (ordE ls gs ≠ 0 ∧ zs = []) ∨ (ordE ls gs = 0 ∧ ∃ V, zs = V.map OneV.at_ ∧ V.Perm (itemsK ls gs ls.length) ∧ SrtO V)
theorem whole_one {ls gs zs zs' : List Int} (h : Whole ls gs zs) (h' : Whole ls gs zs') : zs = zs' := by
  rcases h with ⟨h0, rfl⟩ | ⟨h0, V, rfl, h1, h2⟩
  · rcases h' with ⟨_, rfl⟩ | ⟨k0, _⟩
    · rfl
    · exact absurd k0 h0
  · rcases h' with ⟨k0, _⟩ | ⟨_, V', rfl, k1, k2⟩
    · exact absurd h0 k0
    · rw [same_order h1 k1 h2 k2]
theorem post_of {ls gs : List Int} {w w' : World} {e : Ending} (h : OrdPost ls gs w e w') : ∃ (D : Option Addr) (n d : Nat) (zs : List Int), e = .returned (.tuple #[.slice D n d, .int .i64 (ordE ls gs)]) ∧ RowsIn w' w'.heap.size D n d (fun z => [.int .i64 z]) 1 zs ∧ Whole ls gs zs ∧ Below w.heap.size w w' := by
  rcases h with ⟨h0, h1, h2⟩ | ⟨h0, D, d, V, h1, h2, h3, h4, h5⟩
  · exact ⟨none, 0, 0, [], h1, ⟨rfl, Nat.le_refl _, Nat.zero_le _, fun i x h => by simp at h⟩, .inl ⟨h0, rfl⟩, h2⟩
  · exact ⟨D, _, d, _, by rw [h0]; exact h1, h2, .inr ⟨h0, V, rfl, h3, h4⟩, h5⟩
set_option maxRecDepth 20000 in
set_option maxHeartbeats 1000000 in
theorem walk (A : Option Addr) (n c : Nat) (ls : List Int) (A' : Option Addr) (n' c' : Nat) (gs : List Int) (w : World) (r : RowsIn w w.heap.size A n c (fun z => [.int .i64 z]) 1 ls) (_o0 : ∀ z ∈ ls, (fun z => (Lit.int .i64 z).wf = true) z) (_s0 : c * 8 ≤ 140737488351232) (r' : RowsIn w w.heap.size A' n' c' (fun z => [.int .i64 z]) 1 gs) (_o1 : ∀ z ∈ gs, (fun z => (Lit.int .i64 z).wf = true) z) (_s1 : c' * 8 ≤ 140737488351232) :
    Calls Try.prog 3 #[.slice A n c, .slice A' n' c'] w fun e w' => e = .returned (.bool true) ∧ Below w.heap.size w w' := by
  clear _o0 _s0 _o1 _s1
  have H1 := Lib.hid (order_any A n c ls A' n' c' gs w r r')
  have H2 : Hid (∀ W, Below w.heap.size w W → Calls Try.prog 5 #[.slice A n c, .slice A' n' c'] W (OrdPost ls gs W)) := fun W hW => orderr_any A n c ls A' n' c' gs W ((r.below hW).more hW.size) ((r'.below hW).more hW.size)
  have HP : Hid (∀ {w0 w' : World} {e : Ending}, OrdPost ls gs w0 e w' → ∃ (D : Option Addr) (n d : Nat) (zs : List Int), e = .returned (.tuple #[.slice D n d, .int .i64 (ordE ls gs)]) ∧ RowsIn w' w'.heap.size D n d (fun z => [.int .i64 z]) 1 zs ∧ Whole ls gs zs ∧ Below w0.heap.size w0 w') := fun h => post_of h
  generalize ordE ls gs = E at *
  clear r r'
  go_enter Try.func3, Try.ntmps3
  go_wp2_with (first
    | (go_at_call 4; refine H1.out.mono ?_; intro e w1 h1; obtain ⟨D1, n1, d1, z1, rfl, r1, q1, b1⟩ := HP.out h1; have R1 := Lib.hid r1; have Q1 := Lib.hid q1; have B1 := Lib.hid b1; clear h1 r1 q1 b1)
    | (go_at_call 5; refine (H2.out _ B1.out).mono ?_; intro e w2 h2; obtain ⟨D2, n2, d2, z2, rfl, r2, q2, b2⟩ := HP.out h2; have R2 := Lib.hid r2; have Q2 := Lib.hid (whole_one Q1.out q2); have B2 := Lib.hid b2; clear h2 r2 q2 b2)
    | (go_at_call 6; refine (eqi_any _ _ _ z1 _ _ _ z2 _ _ _ (R1.out.below B2.out) R2.out).mono ?_; rw [eqB_yes Q2.out]; rintro e w3 ⟨rfl, hb3⟩))
  go_ret
  exact ⟨rfl, (B1.out.trans (B2.out.mono B1.out.size)).trans (hb3.mono (Nat.le_trans B1.out.size B2.out.size))⟩
end Go.Proofs.Ytcjidphichlhgaa.lPickSays
