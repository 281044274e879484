/- The law DirTurns, walked: it returns true for every list of entries and every entry. -/
import Derived.Test.YtnnmiolgffcgkaaTurU
import Derived.Test.YtnnmiolgffcgkaaTurA
import Derived.Test.YtnnmiolgffcgkaaEqyEnt
namespace Go.Proofs.Ytnnmiolgffcgkaa.lDirTurns
open Go.RowKit

set_option maxRecDepth 20000 in
set_option maxHeartbeats 2000000 in
theorem walk (a0 : Option Addr) (n0 c0 : Nat) (x0 : List EntD) (a1 : EntD) (w : World) (r0 : RowsIn w w.heap.size a0 n0 c0 EntD.cells 2 x0) (_o0 : ∀ z ∈ x0, EntD.ok z) (_s0 : c0 * 24 ≤ 140737488351232) (_w1 : a1.ok) :
    Calls Try.prog 7 #[.slice a0 n0 c0, .agg #[.string a1.Name, .int .i64 a1.Ino]] w fun e w' => e = .returned (.bool true) ∧ Below w.heap.size w w' := by
  obtain ⟨wa, hwa⟩ : ∃ wa, wa = w.alloc (.cells #[.string a1.Name, .int .i64 a1.Ino] 44) := ⟨_, rfl⟩
  have HBX : Hid (∀ w', Below wa.heap.size wa w' → w'.cell? ⟨w.heap.size, 0, none⟩ = some (.string a1.Name) ∧ w'.cell? ⟨w.heap.size, 1, none⟩ = some (.int .i64 a1.Ino) ∧ Below w.heap.size w w') := fun w' h => by rw [hwa] at h; exact box_ent h
  have R : Hid (∀ W, Below wa.heap.size wa W → RowsIn W W.heap.size a0 n0 c0 EntD.cells 2 x0) := fun W h => ((r0.below (HBX.out W h).2.2).more (HBX.out W h).2.2.size)
  have HWA := Lib.hid hwa
  have H1 := Lib.hid (dfind_any a0 n0 c0 x0 a1.Name wa (R.out wa (Below.refl _ _)))
  have H2 : Hid (∀ W, Below wa.heap.size wa W → Calls Try.prog 27 #[.slice a0 n0 c0, .string a1.Name] W (FndPost x0 a1.Name W)) := fun W h => rfind_any a0 n0 c0 x0 a1.Name W (R.out W h)
  have H3 : Hid (∀ W, Below wa.heap.size wa W → Calls Try.prog 28 #[.slice a0 n0 c0, .agg #[.string a1.Name, .int .i64 a1.Ino]] W (LstPost (addR x0 a1) W)) := fun W h => dadd_any a0 n0 c0 x0 a1 W (R.out W h)
  have H4 : Hid (∀ W, Below wa.heap.size wa W → Calls Try.prog 29 #[.slice a0 n0 c0, .agg #[.string a1.Name, .int .i64 a1.Ino]] W (LstPost (addR x0 a1) W)) := fun W h => radd_any a0 n0 c0 x0 a1 W (R.out W h)
  have H5 : Hid (∀ W, Below wa.heap.size wa W → Calls Try.prog 30 #[.slice a0 n0 c0, .string a1.Name] W (LstPost (delR x0 a1.Name) W)) := fun W h => dcut_any a0 n0 c0 x0 a1.Name W (R.out W h)
  have H6 : Hid (∀ W, Below wa.heap.size wa W → Calls Try.prog 31 #[.slice a0 n0 c0, .string a1.Name] W (LstPost (delR x0 a1.Name) W)) := fun W h => rcut_any a0 n0 c0 x0 a1.Name W (R.out W h)
  obtain ⟨k0, k1, _⟩ := HBX.out wa (Below.refl _ _)
  unfold FndPost at H1 H2
  unfold LstPost at H3 H4 H5 H6
  generalize fndR x0 a1.Name = F at *
  generalize addR x0 a1 = D at *
  generalize delR x0 a1.Name = C at *
  obtain ⟨F1, F2⟩ := F
  obtain ⟨D1, D2⟩ := D
  obtain ⟨C1, C2⟩ := C
  simp only at H1 H2 H3 H4 H5 H6
  clear r0 hwa R
  generalize a1.Name = N at *
  generalize a1.Ino = I at *
  go_enter Try.func7, Try.ntmps7
  go_wp2_with (first
    | (go_at_call 32; refine (eqyEnt _ _ _ C1 _ _ _ _ _ w7 ((R5.out.below (B56.out.trans (B67.out.mono B56.out.size))).more (B56.out.trans (B67.out.mono B56.out.size)).size) ((R6.out.below B67.out).more B67.out.size)).mono ?_; rintro e w8 ⟨rfl, hb8⟩; have HB8 := Lib.hid (HB7.out.trans (hb8.mono HB7.out.size)); clear hb8)
    | (go_at_call 32; refine (eqyEnt _ _ _ D1 _ _ _ _ _ w6 R3.out R4.out).mono ?_; rintro e w7 ⟨rfl, hb7⟩; have B67 := Lib.hid hb7; have HB7 := Lib.hid (HB6.out.trans (hb7.mono HB6.out.size)); clear hb7)
    | (go_at_call 31; refine (H6.out _ HB5.out).mono ?_; rintro e w6 ⟨A6, n6, c6, rfl, r6, hb6⟩; have B56 := Lib.hid hb6; have HB6 := Lib.hid (HB5.out.trans (hb6.mono HB5.out.size)); have R6 := Lib.hid r6; replace R3 := Lib.hid ((R3.out.below hb6).more hb6.size); replace R4 := Lib.hid ((R4.out.below hb6).more hb6.size); clear r6 hb6)
    | (go_at_call 30; refine (H5.out _ HB4.out).mono ?_; rintro e w5 ⟨A5, n5, c5, rfl, r5, hb5⟩; have HB5 := Lib.hid (HB4.out.trans (hb5.mono HB4.out.size)); obtain ⟨k50, k51, _⟩ := HBX.out _ HB5.out; have R5 := Lib.hid r5; replace R3 := Lib.hid ((R3.out.below hb5).more hb5.size); replace R4 := Lib.hid ((R4.out.below hb5).more hb5.size); clear r5 hb5)
    | (go_at_call 29; refine (H4.out _ HB3.out).mono ?_; rintro e w4 ⟨A4, n4, c4, rfl, r4, hb4⟩; have HB4 := Lib.hid (HB3.out.trans (hb4.mono HB3.out.size)); obtain ⟨k40, k41, _⟩ := HBX.out _ HB4.out; have R4 := Lib.hid r4; replace R3 := Lib.hid ((R3.out.below hb4).more hb4.size); clear r4 hb4)
    | (go_at_call 28; refine (H3.out _ HB2.out).mono ?_; rintro e w3 ⟨A3, n3, c3, rfl, r3, hb3⟩; have HB3 := Lib.hid (HB2.out.trans (hb3.mono HB2.out.size)); obtain ⟨k30, k31, _⟩ := HBX.out _ HB3.out; have R3 := Lib.hid r3; clear r3 hb3)
    | (go_at_call 27; refine (H2.out _ HB1.out).mono ?_; rintro e w2 ⟨rfl, hb2⟩; have HB2 := Lib.hid (HB1.out.trans (hb2.mono HB1.out.size)); obtain ⟨k20, k21, _⟩ := HBX.out _ HB2.out; clear hb2)
    | (go_at_call 26; rw [← HWA.out]; refine H1.out.mono ?_; rintro e w1 ⟨rfl, hb1⟩; have HB1 := Lib.hid hb1; obtain ⟨k10, k11, _⟩ := HBX.out _ hb1; clear hb1))
  go_ret
  exact ⟨rfl, (HBX.out _ HB8.out).2.2⟩
end Go.Proofs.Ytnnmiolgffcgkaa.lDirTurns
