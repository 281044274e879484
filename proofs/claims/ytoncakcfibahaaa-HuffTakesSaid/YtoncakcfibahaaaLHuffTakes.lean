/- The law HuffTakes, walked: it returns true for all arguments. -/
import Derived.Test.YtoncakcfibahaaaHmG
namespace Go.Proofs.Ytoncakcfibahaaa.lHuffTakes
open Go.RowKit

set_option maxRecDepth 20000 in
set_option maxHeartbeats 2000000 in
theorem walk (A : Option Addr) (n c : Nat) (xs : List Int) (most : Int) (w : World) (r : RowsIn w w.heap.size A n c (fun z => [.int .i64 z]) 1 xs) (_o0 : ∀ z ∈ xs, (fun z => (Lit.int .i64 z).wf = true) z) (_s0 : c * 8 ≤ 140737488351232) (_o1 : (Lit.int .i64 most).wf = true) :
    Calls Try.prog 3 #[.slice A n c, .int .i64 most] w fun e w' => e = .returned (.bool true) ∧ Below w.heap.size w w' := by
  clear _o0 _s0 _o1
  have hlen := r.len
  obtain rfl := hlen
  have HLE := Lib.hid (lens_any A xs.length c xs most w r)
  have HFR : Hid (∀ W, Below w.heap.size w W → Calls Try.prog 5 #[.slice A xs.length c] W fun e w' => e = .returned (.int .i64 (freqE xs)) ∧ W = w') := fun W hW => freq_any A xs.length c xs _ W (r.below hW)
  by_cases hF : freqE xs = 0
  · have HCM : Hid (∀ W, Below w.heap.size w W → Calls Try.prog 6 #[.slice A xs.length c] W fun e w' => ∃ D d, e = .returned (.slice D (Ht.posL xs).length d) ∧ Below W.heap.size W w') := fun W hW => comes_any A xs.length c xs W ((r.below hW).more hW.size) hF
    rw [hF] at HFR
    by_cases hm : most < 1 ∨ 15 < most
    · have hE := cl_most (most := most) hF hm
      have HP : Hid (∀ e w', LensPost xs most w e w' → e = .returned (.tuple #[.slice none 0 0, .int .i64 1]) ∧ Below w.heap.size w w') := fun e w' h => by
        rcases h with ⟨_, h1, h2⟩ | ⟨h0, _⟩
        · rw [hE] at h1; exact ⟨h1, h2⟩
        · rw [hE] at h0; cases h0
      clear hF hE
      rcases hm with hm | hm
      all_goals
        go_enter Try.func3, Try.ntmps3
        go_wp2_with (first
          | (go_at_call 4; refine HLE.out.mono ?_; intro e w1 hp; obtain ⟨rfl, hb⟩ := HP.out e w1 hp; have HB := Lib.hid hb; clear hb hp)
          | (go_at_call 5; refine (HFR.out _ HB.out).mono ?_; rintro e w' ⟨rfl, rfl⟩))
        all_goals
          go_ret
          exact ⟨rfl, HB.out⟩
    · obtain ⟨m, rfl⟩ : ∃ m : Nat, most = m := ⟨most.toNat, by omega⟩
      have hm1 : 1 ≤ m := by omega
      have hm2 : m ≤ 15 := by omega
      have i1 : ¬ (m : Int) < 1 := by omega
      have i2 : ¬ (15 : Int) < (m : Int) := by omega
      obtain ⟨M, hM⟩ : ∃ M : Nat, M = 2 ^ m := ⟨_, rfl⟩
      have HPW : Hid (∀ W, Calls Try.prog 7 #[.int .i64 m] W fun e w' => e = .returned (.int .i64 M) ∧ W = w') := fun W => by
        have := pow2_any (m : Int) W (by omega) (by omega)
        rw [Int.toNat_natCast, show (2 : Int) ^ m = (M : Int) by rw [hM]; push_cast; rfl] at this
        exact this
      by_cases hov : M < (Ht.posL xs).length
      · have hE := cl_over hF hm1 hm2 (by rw [← hM]; exact hov)
        have HP : Hid (∀ e w', LensPost xs m w e w' → e = .returned (.tuple #[.slice none 0 0, .int .i64 6]) ∧ Below w.heap.size w w') := fun e w' h => by
          rcases h with ⟨_, h1, h2⟩ | ⟨h0, _⟩
          · rw [hE] at h1; exact ⟨h1, h2⟩
          · rw [hE] at h0; cases h0
        have hov1 : (M : Int) < ((Ht.posL xs).length : Int) := by omega
        clear hF hE hM hm
        generalize (Ht.posL xs).length = L at *
        go_enter Try.func3, Try.ntmps3
        go_wp2_with (first
          | (go_at_call 4; refine HLE.out.mono ?_; intro e w1 hp; obtain ⟨rfl, hb⟩ := HP.out e w1 hp; have HB := Lib.hid hb; clear hb hp)
          | (go_at_call 5; refine (HFR.out _ HB.out).mono ?_; rintro e w' ⟨rfl, rfl⟩)
          | (go_at_call 6; refine (HCM.out _ HB.out).mono ?_; rintro e w2 ⟨D, d, rfl, hb⟩; have HB2 := Lib.hid (HB.out.trans (hb.mono HB.out.size)); clear hb)
          | (go_at_call 7; refine (HPW.out _).mono ?_; rintro e w' ⟨rfl, rfl⟩))
        all_goals
          go_ret
          exact ⟨rfl, HB2.out⟩
      · have hE := cl_ok hF hm1 hm2 (by rw [← hM]; omega)
        have HP : Hid (∀ e w', LensPost xs m w e w' → ∃ D d out, e = .returned (.tuple #[.slice D xs.length d, .int .i64 0]) ∧ RowsIn w' w'.heap.size D xs.length d (fun z => [.int .i64 z]) 1 out ∧ Ht.Good xs m out ∧ Below w.heap.size w w') := fun e w' h => by
          rcases h with ⟨h0, _⟩ | ⟨_, D, d, out, h1, h2, h3, h4⟩
          · exact absurd hE h0
          · rw [← flat_one (fun z : Int => Value.int .i64 z)] at h2
            exact ⟨D, d, out, h1, Owns.rows (enc := fun z : Int => [Value.int .i64 z]) (k := 1) (fun _ => rfl) (by decide) h2, by simpa using h3, h4⟩
        obtain ⟨hL, hX⟩ := freqE_zero hF
        have HX := Lib.hid hX
        have hov1 : ¬ (M : Int) < ((Ht.posL xs).length : Int) := by omega
        clear hF hE hM hm hX
        generalize hLL : (Ht.posL xs).length = L at *
        have HLL := Lib.hid hLL
        clear hLL
        go_enter Try.func3, Try.ntmps3
        go_wp2_with (first
          | (go_at_call 4; refine HLE.out.mono ?_; intro e w1 hp; obtain ⟨D, d, out, rfl, hr1, hg, hb⟩ := HP.out e w1 hp; have HB := Lib.hid hb; have HR1 := Lib.hid hr1; have HG := Lib.hid hg; clear hb hp hr1 hg)
          | (go_at_call 5; refine (HFR.out _ HB.out).mono ?_; rintro e w' ⟨rfl, rfl⟩)
          | (go_at_call 6; refine (HCM.out _ HB.out).mono ?_; rintro e w2 ⟨D2, d2, rfl, hb⟩; have HBB := Lib.hid hb; clear hb)
          | (go_at_call 7; refine (HPW.out _).mono ?_; rintro e w' ⟨rfl, rfl⟩))
        have HB2 : Hid (Below w1.heap.size w1 w2) := HBB.out
        clear HBB
        go_loopw [61] (fun v wr => ∃ k : Nat, k ≤ xs.length ∧ v = .int .i64 k ∧ Hid (Below w1.heap.size w1 wr)) (fun v _ => xs.length - (intOf v).toNat)
        case atStart => exact ⟨0, Nat.zero_le _, rfl, HB2⟩
        case round =>
          obtain ⟨k, hk, rfl, HW⟩ := hrel
          by_cases hlt : k < xs.length
          · have e1 := List.getElem?_eq_getElem hlt
            have hx := HX.out xs[k] (List.getElem_mem hlt)
            have hol := HG.out.len
            have e2 := List.getElem?_eq_getElem (show k < out.length by omega)
            have hz := fun h => HG.out.zero k _ _ e1 e2 h
            have hs := fun h => HG.out.some_ k _ _ e1 e2 h
            have ho := fun h => HG.out.one h _ (List.getElem_mem (show k < out.length by omega))
            have HBW : Hid (Below w.heap.size w wr) := HB.out.trans (HW.out.mono HB.out.size)
            obtain ⟨b, o, rfl, hbB, hc⟩ := (r.below HBW.out).one e1
            obtain ⟨b', o', rfl, hbB', hc'⟩ := (HR1.out.below HW.out).one e2
            have HCW := Lib.hid (HCM.out wr HBW.out)
            generalize xs[k] = x at *
            generalize out[k]'_ = v at *
            rw [HLL.out] at ho
            have i3 : (k : Int) < (xs.length : Int) := by omega
            have i4 : (0 : Int) ≤ (k : Int) := by omega
            clear e1 e2 hol
            rcases Bool.eq_false_or_eq_true ((L : Int) == 1) with hL1 | hL1
            · have ho1 := ho (by have := beq_iff_eq.1 hL1; omega)
              rcases (show x = 0 ∨ 0 < x by omega) with hx0 | hx0
              · have hv0 := hz hx0
                subst hx0; subst hv0
                clear hz hs ho
                go_wp2_with (go_at_call 6; refine HCW.out.mono ?_; rintro e w5 ⟨D5, d5, rfl, hb⟩; have HB5 := Lib.hid (HW.out.trans (hb.mono HW.out.size)); clear hb)
                go_roundw
                case rel => exact ⟨k + 1, by omega, by go_num, HB5⟩
                case measure => (simp [intOf]; omega)
              · obtain ⟨hv1, hv2⟩ := hs hx0
                obtain rfl : v = 1 := by omega
                have hx1 : (x == 0) = false := beq_eq_false_iff_ne.2 (by omega)
                have hx2 : decide (0 < x) = true := decide_eq_true hx0
                clear hz hs ho
                go_wp2_with (go_at_call 6; refine HCW.out.mono ?_; rintro e w5 ⟨D5, d5, rfl, hb⟩; have HB5 := Lib.hid (HW.out.trans (hb.mono HW.out.size)); clear hb)
                go_roundw
                case rel => exact ⟨k + 1, by omega, by go_num, HB5⟩
                case measure => (simp [intOf]; omega)
            · rcases (show x = 0 ∨ 0 < x by omega) with hx0 | hx0
              · have hv0 := hz hx0
                subst hx0; subst hv0
                clear hz hs ho
                go_wp2_with (go_at_call 6; refine HCW.out.mono ?_; rintro e w5 ⟨D5, d5, rfl, hb⟩; have HB5 := Lib.hid (HW.out.trans (hb.mono HW.out.size)); clear hb)
                go_roundw
                case rel => exact ⟨k + 1, by omega, by go_num, HB5⟩
                case measure => (simp [intOf]; omega)
              · obtain ⟨hv1, hv2⟩ := hs hx0
                have hx1 : (x == 0) = false := beq_eq_false_iff_ne.2 (by omega)
                have hx2 : decide (0 < x) = true := decide_eq_true hx0
                have hv3 : ¬ v < 1 := by omega
                have hv4 : ¬ (m : Int) < v := by omega
                clear hz hs ho
                go_wp2_with (go_at_call 6; refine HCW.out.mono ?_; rintro e w5 ⟨D5, d5, rfl, hb⟩; have HB5 := Lib.hid (HW.out.trans (hb.mono HW.out.size)); clear hb)
                go_roundw
                case rel => exact ⟨k + 1, by omega, by go_num, HB5⟩
                case measure => (simp [intOf]; omega)
          · have hfo := fill_ok (l := out) (by rw [HG.out.len]; exact hL) HG.out.all
            have HFI := Lib.hid (fillr_any D xs.length d out _ wr (HR1.out.below HW.out))
            rw [hfo.1, hfo.2] at HFI
            have hsum := HG.out.sum
            clear hfo
            generalize fsum out = S at *
            have HBE : Hid (Below w.heap.size w wr) := HB.out.trans (HW.out.mono HB.out.size)
            go_wp2_with (go_at_call 8; refine HFI.out.mono ?_; rintro e w' ⟨rfl, rfl⟩)
            go_ret
            exact ⟨rfl, HBE.out⟩
  · have hE := cl_no (most := most) hF
    have HP : Hid (∀ e w', LensPost xs most w e w' → e = .returned (.tuple #[.slice none 0 0, .int .i64 (freqE xs)]) ∧ Below w.heap.size w w') := fun e w' h => by
      rcases h with ⟨_, h1, h2⟩ | ⟨h0, _⟩
      · rw [hE.1] at h1; exact ⟨h1, h2⟩
      · exact absurd h0 hE.2
    have hE2 : (freqE xs == 0) = false := beq_eq_false_iff_ne.2 hF
    have hE3 : (freqE xs != 0) = true := bne_iff_ne.2 hF
    clear hF hE
    generalize freqE xs = E at *
    go_enter Try.func3, Try.ntmps3
    go_wp2_with (first
      | (go_at_call 4; refine HLE.out.mono ?_; intro e w1 hp; obtain ⟨rfl, hb⟩ := HP.out e w1 hp; have HB := Lib.hid hb; clear hb hp)
      | (go_at_call 5; refine (HFR.out _ HB.out).mono ?_; rintro e w' ⟨rfl, rfl⟩))
    all_goals
      go_ret
      exact ⟨rfl, HB.out⟩
end Go.Proofs.Ytoncakcfibahaaa.lHuffTakes
