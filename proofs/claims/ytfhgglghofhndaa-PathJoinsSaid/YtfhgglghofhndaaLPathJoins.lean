/- The law PathJoins, walked: it returns true for every two lists of names. -/
import Derived.Test.YtfhgglghofhndaaPjW
import Derived.Test.YtfhgglghofhndaaPjU
import Derived.Test.YtfhgglghofhndaaSlc
namespace Go.Proofs.Ytfhgglghofhndaa.lPathJoins
open Go.RowKit

set_option maxRecDepth 20000 in
set_option maxHeartbeats 2000000 in
theorem walk (a0 : Option Addr) (n0 c0 : Nat) (x0 : List ByteArray) (a1 : Option Addr) (n1 c1 : Nat) (x1 : List ByteArray) (w : World) (r0 : RowsIn w w.heap.size a0 n0 c0 (fun z => [.string z]) 1 x0) (_o0 : ∀ z ∈ x0, (fun z => z.size ≤ maxLen) z) (s0 : c0 * 16 ≤ 140737488351232) (r1 : RowsIn w w.heap.size a1 n1 c1 (fun z => [.string z]) 1 x1) (_o1 : ∀ z ∈ x1, (fun z => z.size ≤ maxLen) z) (_s1 : c1 * 16 ≤ 140737488351232) :
    Calls Try.prog 10 #[.slice a0 n0 c0, .slice a1 n1 c1] w fun e w' => e = .returned (.bool true) ∧ Below w.heap.size w w' := by
  clear _o0 _o1 _s1
  have hn0 := r0.len
  have hn1 := r1.len
  subst hn0
  subst hn1
  have R0 : Hid (∀ W, Below w.heap.size w W → RowsIn W W.heap.size a0 x0.length c0 (fun z => [.string z]) 1 x0) := fun W h => (r0.below h).more h.size
  have R1 : Hid (∀ W, Below w.heap.size w W → RowsIn W W.heap.size a1 x1.length c1 (fun z => [.string z]) 1 x1) := fun W h => (r1.below h).more h.size
  have H1 : Hid (Calls Try.prog 40 #[.slice a0 x0.length c0] w (JnPost x0 w)) := pjoin_any a0 x0.length c0 x0 w r0
  have H2 : Hid (∀ W, Below w.heap.size w W → Calls Try.prog 41 #[.slice a0 x0.length c0] W (JnPost x0 W)) := fun W h => rjoin_any a0 x0.length c0 x0 s0 W (R0.out W h)
  have H3 : Hid (∀ W, Below w.heap.size w W → Calls Try.prog 42 #[.slice a0 x0.length c0, .slice a1 x1.length c1] W fun e w' => e = .returned (.bool (undB x0 x1)) ∧ Below W.heap.size W w') := fun W h => under_any a0 x0.length c0 x0 a1 x1.length c1 x1 W (R0.out W h) (R1.out W h)
  have ht0 : (x0.length : Int) ≤ 9223372036854775807 := by have h1 := r0.le; have h2 := r0.top; unfold maxLen at h2; omega
  have ht1 : (x1.length : Int) ≤ 9223372036854775807 := by have h1 := r1.le; have h2 := r1.top; unfold maxLen at h2; omega
  have hcap : x1.length ≤ c1 := r1.le
  unfold JnPost at H1 H2
  clear r0 r1 s0
  generalize jnT x0 = T at *
  generalize jnE x0 = E at *
  by_cases hl : x0.length ≤ x1.length
  · have H4 : Hid (∀ W, Below w.heap.size w W → Calls Try.prog 39 #[.slice a1 x0.length c1, .slice a0 x0.length c0] W fun e w' => e = .returned (.bool (undB x0 x1)) ∧ Below W.heap.size W w') := fun W h => by
      have := eqs_any a1 x0.length c1 (x1.take x0.length) a0 x0.length c0 x0 W ((R1.out W h).pre hl) (R0.out W h)
      have e : undB x0 x1 = decide (x1.take x0.length = x0) := by unfold undB; rw [decide_eq_true hl]; rfl
      rw [e]; exact this
    have hli : (x0.length : Int) ≤ (x1.length : Int) := by omega
    have hcl : (x0.length : Int) ≤ (c1 : Int) := by omega
    clear hl
    generalize undB x0 x1 = U at *
    go_enter Try.func10, Try.ntmps10
    go_wp2_with (first
      | (go_at_call 40; refine H1.out.mono ?_; rintro e w1 ⟨rfl, hb1⟩)
      | (go_at_call 41; refine (H2.out _ hb1).mono ?_; rintro e w2 ⟨rfl, hb2⟩; have HB2 := hb1.trans (hb2.mono hb1.size))
      | (go_at_call 42; refine (H3.out _ HB2).mono ?_; rintro e w3 ⟨rfl, hb3⟩; have HB3 := HB2.trans (hb3.mono HB2.size))
      | (go_at_call 39; refine (H4.out _ HB3).mono ?_; rintro e w4 ⟨rfl, hb4⟩; have HB4 := HB3.trans (hb4.mono HB3.size)))
    go_ret
    exact ⟨rfl, HB4⟩
  · have F := und_short hl
    rw [F] at H3
    have hli : ¬ (x0.length : Int) ≤ (x1.length : Int) := by omega
    clear hl F
    go_enter Try.func10, Try.ntmps10
    go_wp2_with (first
      | (go_at_call 40; refine H1.out.mono ?_; rintro e w1 ⟨rfl, hb1⟩)
      | (go_at_call 41; refine (H2.out _ hb1).mono ?_; rintro e w2 ⟨rfl, hb2⟩; have HB2 := hb1.trans (hb2.mono hb1.size))
      | (go_at_call 42; refine (H3.out _ HB2).mono ?_; rintro e w3 ⟨rfl, hb3⟩; have HB3 := HB2.trans (hb3.mono HB2.size)))
    go_ret
    exact ⟨rfl, HB3⟩
end Go.Proofs.Ytfhgglghofhndaa.lPathJoins
