/- linenref.Canon, walked. -/
import Derived.Test.YtebgcemglicjiaaPlJa
import Derived.Test.YtebgcemglicjiaaFillW
import Derived.Test.YtebgcemglicjiaaOwJa
namespace Go.Proofs.Ytebgcemglicjiaa
open Go.RowKit

theorem info_i64c : (Try.prog.info? 3).map (fun i => (i.zero, i.size, i.bytes)) = some (some (.int .i64 0), 1, 8) := by kernel_rfl
theorem flat_intsC (xs : List Int) : xs.flatMap (fun z => [Value.int .i64 z]) = xs.map (Value.int .i64) := by
  induction xs with
  | nil => rfl
  | cons x r ih => simp [ih]
theorem own_intsC {w : World} {base n c : Nat} {A : Option Addr} {xs : List Int} (h : Owns w base 1 (.slice A n c) n (xs.map (Value.int .i64))) : RowsIn w w.heap.size A n c (fun z => [.int .i64 z]) 1 xs := by
  rw [← flat_intsC] at h
  exact h.rows (enc := fun z => [Value.int .i64 z]) (k := 1) (fun _ => rfl) Nat.one_pos
theorem no_intsC (w : World) (B : Nat) : RowsIn w B none 0 0 (fun z => [.int .i64 z]) 1 ([] : List Int) := ⟨rfl, Nat.le_refl _, Nat.zero_le _, fun i x h => by simp at h⟩

set_option maxRecDepth 20000 in
set_option maxHeartbeats 1000000 in
theorem canonr_any (A : Option Addr) (n c : Nat) (xs : List Int) (w : World) (r : RowsIn w w.heap.size A n c (fun z => [.int .i64 z]) 1 xs) :
    Calls Try.prog 22 #[.slice A n c] w fun e w' => ∃ A q c, e = .returned (.tuple #[.slice A q c, .int .i64 (canE xs)]) ∧ RowsIn w' w'.heap.size A q c (fun z => [.int .i64 z]) 1 (canX xs) ∧ Below w.heap.size w w' := by
  have hlen := r.len
  obtain rfl := hlen
  have H := Lib.hid (fillr_any A xs.length c xs w.heap.size w r)
  by_cases hE : fillE xs = 0
  · obtain ⟨hL, hA⟩ := fillE_zero hE
    have HA := Lib.hid hA
    by_cases hO : 32768 < fillV xs
    · have F := Lib.hid (can_over hE hO)
      rw [hE] at H
      generalize fillV xs = fv at *
      clear hE hA
      go_enter Try.func22, Try.ntmps22
      go_wp2_with (go_at_call 58; refine H.out.mono ?_; rintro e w' ⟨rfl, rfl⟩)
      go_ret2
      exact ⟨none, 0, 0, by rw [F.out.1]; rfl, by rw [F.out.2]; exact no_intsC _ _, Below.refl _ _⟩
    · have F := Lib.hid (can_ok hE hO)
      rw [hE] at H
      have hO' : fillV xs ≤ 32768 := by omega
      generalize fillV xs = fv at *
      clear hE hA hO
      go_enter Try.func22, Try.ntmps22
      go_wp2_with (go_at_call 58; refine H.out.mono ?_; rintro e w' ⟨rfl, rfl⟩)
      clear H
      go_loopw [6, 24] (fun v6 v24 wr => ∃ i : Nat, i ≤ xs.length ∧ v24 = .int .i64 i ∧ Owns wr w.heap.size 1 v6 i ((canL xs i).map (Value.int .i64)) ∧ Below w.heap.size w wr) (fun _ v24 _ => xs.length - (intOf v24).toNat)
      case atStart => exact ⟨0, Nat.zero_le _, rfl, Owns.nil _ _ _, Below.refl _ _⟩
      case round =>
        obtain ⟨i, hi, rfl, hown, hb⟩ := hrel
        obtain ⟨AO, cO, rfl⟩ := hown.form
        have hsz := hb.size
        by_cases hlt : i < xs.length
        · have e1 := List.getElem?_eq_getElem hlt
          obtain ⟨b, o, rfl, hbB, hc⟩ := (r.below hb).one e1
          have hx := HA.out xs[i] (List.getElem_mem hlt)
          obtain ⟨x, hxe⟩ : ∃ x, x = xs[i] := ⟨_, rfl⟩
          rw [← hxe] at hx hc e1
          have HX := Lib.hid (canL_succ e1)
          clear hxe e1
          obtain ⟨wo, rfl⟩ : ∃ wo : World, wo = wr := ⟨_, rfl⟩
          go_wp2
          go_loop [9, 31] (fun v9 v31 => ∃ (j : Nat) (s : Int), j ≤ xs.length ∧ 0 ≤ s ∧ s ≤ 32768 * j ∧ Hid (s = ahd xs i x j) ∧ v31 = .int .i64 j ∧ v9 = .int .i64 s) (fun _ v31 => xs.length - (intOf v31).toNat)
          case atStart => exact ⟨0, 0, Nat.zero_le _, by omega, by omega, (ahd_zero xs i x).symm, rfl, rfl⟩
          case round =>
            obtain ⟨j, s, hj, hs0, hs1, hs, rfl, rfl⟩ := hrel
            by_cases hjl : j < xs.length
            · have e2 := List.getElem?_eq_getElem hjl
              obtain ⟨b', o', e', hbB', hc'⟩ := (r.below hb).one e2
              injection e' with e'
              injection e' with e3 e4 _
              subst e3; subst e4
              have hv := HA.out xs[j] (List.getElem_mem hjl)
              generalize xs[j] = v at *
              have hp := pow15 (v := v) hv.1 hv.2
              rcases (show v ≤ 0 ∨ (0 < v ∧ v < x) ∨ (0 < v ∧ x < v) ∨ (0 < v ∧ v = x ∧ j < i) ∨ (0 < v ∧ v = x ∧ i ≤ j) by omega) with h | ⟨h, h2⟩ | ⟨h, h2⟩ | ⟨h, h2, h3⟩ | ⟨h, h2, h3⟩
              · have G : Hid (s = ahd xs i x (j + 1)) := hs.out.trans (ahd_skip e2 (by omega)).symm
                clear e2
                go_wp2
                go_round
                case rel => exact ⟨j + 1, s, by omega, by omega, by omega, G, by go_num, rfl⟩
                case measure => (simp [intOf]; try omega)
              · have G : Hid (s + 2 ^ (15 - v).toNat = ahd xs i x (j + 1)) := by simp only [Hid]; rw [ahd_low e2 h h2, hs.out]
                clear e2
                go_wp2_with (go_at_call 26; refine (pow2_any _ _ (by omega) (by omega)).mono ?_; rintro e w' ⟨rfl, rfl⟩)
                go_round
                case rel => exact ⟨j + 1, s + 2 ^ (15 - v).toNat, by omega, by omega, by omega, G, by go_num, by go_num⟩
                case measure => (simp [intOf]; try omega)
              · have G : Hid (s = ahd xs i x (j + 1)) := hs.out.trans (ahd_skip e2 (by omega)).symm
                have g1 : (v == x) = false := by rw [beq_eq_false_iff_ne]; omega
                have g2 : ¬ v < x := by omega
                clear e2
                go_wp2
                go_round
                case rel => exact ⟨j + 1, s, by omega, by omega, by omega, G, by go_num, rfl⟩
                case measure => (simp [intOf]; try omega)
              · subst h2
                have G : Hid (s + 2 ^ (15 - v).toNat = ahd xs i v (j + 1)) := by simp only [Hid]; rw [ahd_same e2 h h3, hs.out]
                have g3 : (j : Int) < (i : Int) := by omega
                clear e2
                go_wp2_with (go_at_call 26; refine (pow2_any _ _ (by omega) (by omega)).mono ?_; rintro e w' ⟨rfl, rfl⟩)
                go_round
                case rel => exact ⟨j + 1, s + 2 ^ (15 - v).toNat, by omega, by omega, by omega, G, by go_num, by go_num⟩
                case measure => (simp [intOf]; try omega)
              · subst h2
                have G : Hid (s = ahd xs i v (j + 1)) := hs.out.trans (ahd_skip e2 (by omega)).symm
                have g3 : (i : Int) ≤ (j : Int) := by omega
                have g4 : ¬ (j : Int) < (i : Int) := by omega
                clear e2
                go_wp2
                go_round
                case rel => exact ⟨j + 1, s, by omega, by omega, by omega, G, by go_num, rfl⟩
                case measure => (simp [intOf]; try omega)
            · have hje : j = xs.length := by omega
              have hp := pow15 (v := x) hx.1 hx.2
              have hs2 : s = ahd xs i x xs.length := by rw [← hje]; exact hs.out
              have hs1' : s ≤ 32768 * 320 := by omega
              rcases (show x = 0 ∨ 0 < x by omega) with h0 | h0
              · subst h0
                have hc0 : codeAt xs i 0 = 0 := rfl
                rw [hc0] at HX
                clear hs hs2 hje hc0
                go_wp2_with (first | (go_at_call 26; refine (pow2_any _ _ (by omega) (by omega)).mono ?_; rintro e w' ⟨rfl, rfl⟩) | (at_builtin; refine wpList_add1 rfl rfl Try.underlying63 info_i64c rfl (Nat.le_refl 1) hown rfl hsz rfl rfl rfl ?_ ?_ ?_ ?_; simp [Value.oneCell']; (unfold maxLen; omega); omega; intro A3 c3 w3 hown3 hl3 hbk3))
                go_roundw
                case rel => exact ⟨i + 1, by omega, by go_num, by rw [HX.out]; simpa using hown3, hl3.below (Nat.le_refl _) hb⟩
                case measure => (simp [intOf]; try omega)
              · have hs3 : s = 2 ^ (15 - x).toNat * codeAt xs i x := hs2.trans (ahd_code hi h0 hx.2)
                have hc0 := codeAt_nonneg xs i x
                have hq : s.tdiv (2 ^ (15 - x).toNat) = codeAt xs i x := by rw [hs3]; exact div_code hp.1 hc0
                have hc1 : codeAt xs i x ≤ 32768 * 320 := by
                  refine Int.le_trans ?_ hs1'
                  rw [hs3]
                  have hm := Int.mul_le_mul_of_nonneg_right hp.1 hc0
                  rw [Int.one_mul] at hm
                  exact hm
                clear hs hs2 hs3 hje
                generalize codeAt xs i x = code at *
                generalize hpe : (2 : Int) ^ (15 - x).toNat = p at *
                have hn : (p == 0) = false := by rw [beq_eq_false_iff_ne]; omega
                have hn0 : ¬ x = 0 := by omega
                have hn1 : (x == 0) = false := by rw [beq_eq_false_iff_ne]; omega
                have hpn : p ≠ 0 := by omega
                have hqw : wrap64 code = code := by unfold wrap64; omega
                go_wp2_with (first | (go_at_call 26; refine (pow2_any _ _ (by omega) (by omega)).mono ?_; rintro e w' ⟨rfl, rfl⟩; rw [hpe]) | (at_builtin; refine wpList_add1 rfl rfl Try.underlying63 info_i64c rfl (Nat.le_refl 1) hown rfl hsz rfl rfl rfl ?_ ?_ ?_ ?_; simp [Value.oneCell']; (unfold maxLen; omega); omega; intro A3 c3 w3 hown3 hl3 hbk3))
                go_roundw
                case rel => exact ⟨i + 1, by omega, by go_num, by rw [HX.out]; simpa using hown3, hl3.below (Nat.le_refl _) hb⟩
                case measure => (simp [intOf]; try omega)
        · have hie : i = xs.length := by omega
          have F2 : Hid (canX xs = canL xs i) := by simp only [Hid]; rw [F.out.2, hie]
          have F1 := Lib.hid F.out.1
          clear hie F
          go_wp2
          go_ret2
          exact ⟨AO, i, cO, by rw [F1.out]; rfl, by rw [F2.out]; exact own_intsC hown, hb⟩
  · have F := Lib.hid (can_fill hE)
    have hne : (fillE xs != 0) = true := bne_iff_ne.2 hE
    generalize fillV xs = fv at *
    generalize fillE xs = fe at *
    clear hE
    go_enter Try.func22, Try.ntmps22
    go_wp2_with (go_at_call 58; refine H.out.mono ?_; rintro e w' ⟨rfl, rfl⟩)
    go_ret2
    exact ⟨none, 0, 0, by rw [F.out.1]; rfl, by rw [F.out.2]; exact no_intsC _ _, Below.refl _ _⟩
end Go.Proofs.Ytebgcemglicjiaa
