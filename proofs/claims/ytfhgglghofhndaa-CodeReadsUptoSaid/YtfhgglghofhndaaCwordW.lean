/- linenref.Codeword, walked. -/
import Derived.Test.YtfhgglghofhndaaCwP
import Derived.Test.YtfhgglghofhndaaFillW
import Derived.Test.YtfhgglghofhndaaCanonR
namespace Go.Proofs.Ytfhgglghofhndaa
open Go.RowKit

theorem cword_succ (c : Int) (k : Nat) : cword c (k + 1) = (c / 2 ^ k % 2) :: cword c k := rfl

set_option maxRecDepth 20000 in
set_option maxHeartbeats 400000 in
theorem cword_own (c x : Int) (w : World) (hc0 : 0 ≤ c) (hc1 : c ≤ 32768 * 320) (hx0 : 0 ≤ x) (hx1 : x ≤ 15) :
    Calls Try.prog 103 #[.int .i64 c, .int .i64 x] w fun e w' => ∃ A q d, e = .returned (.slice A q d) ∧ Owns w' w.heap.size 1 (.slice A q d) q ((cword c x.toNat).map (Value.int .i64)) ∧ Below w.heap.size w w' := by
  obtain ⟨n, rfl⟩ := Int.eq_ofNat_of_zero_le hx0
  rw [Int.toNat_natCast]
  go_enter Try.func103, Try.ntmps103
  go_wp2
  go_loopw [5, 6] (fun v5 v6 wr => ∃ (i : Int) (O : List Int), -1 ≤ i ∧ i < n ∧ Hid (O ++ cword c (i + 1).toNat = cword c n) ∧ (O.length : Int) ≤ n - (i + 1) ∧ v6 = .int .i64 i ∧ Owns wr w.heap.size 1 v5 O.length (O.map (Value.int .i64)) ∧ Below w.heap.size w wr) (fun _ v6 _ => (intOf v6 + 1).toNat)
  case atStart => exact ⟨(n : Int) - 1, [], by omega, by omega, by simp only [Hid]; rw [show ((n : Int) - 1 + 1).toNat = n by omega]; rfl, by simp, by go_num, Owns.nil _ _ _, Below.refl _ _⟩
  case round =>
    obtain ⟨i, O, hi0, hi1, hO, hOl, rfl, hown, hb⟩ := hrel
    obtain ⟨A, d, rfl⟩ := hown.form
    have hsz := hb.size
    by_cases hi : 0 ≤ i
    · obtain ⟨k, rfl⟩ : ∃ k : Nat, i = k := ⟨i.toNat, by omega⟩
      have hk : k ≤ 14 := by omega
      have hp0 : (0 : Int) < 2 ^ k := Int.pow_pos (by decide)
      have hp1 : (2 : Int) ^ k ≤ 16384 := by
        have : (2 : Nat) ^ k ≤ 2 ^ 14 := Nat.pow_le_pow_right (by omega) hk
        have h2 : ((2 ^ k : Nat) : Int) ≤ ((2 ^ 14 : Nat) : Int) := by exact_mod_cast this
        simpa using h2
      have HX : Hid ((O ++ [c / 2 ^ k % 2]) ++ cword c k = cword c n) := by
        have := hO.out
        rw [show ((k : Int) + 1).toNat = k + 1 by omega, cword_succ] at this
        simpa [Hid] using this
      have hP := Lib.hid (pow2_any k wr (by omega) (by omega))
      rw [Int.toNat_natCast] at hP
      have hq0 : 0 ≤ c / 2 ^ k := Int.ediv_nonneg hc0 (by omega)
      have hq1 : c / 2 ^ k ≤ c := Int.ediv_le_self _ hc0
      have ht : c.tdiv (2 ^ k) = c / 2 ^ k := Int.tdiv_eq_ediv_of_nonneg hc0
      generalize hpe : (2 : Int) ^ k = p at *
      have hn : (p == 0) = false := by rw [beq_eq_false_iff_ne]; omega
      have hpn : p ≠ 0 := by omega
      generalize hqe : c / p = q at *
      have hqw : wrap64 q = q := by unfold wrap64; omega
      clear hqe hpe
      go_wp2_with (first | (go_at_call 102; refine hP.out.mono ?_; rintro e w' ⟨rfl, rfl⟩) | (at_builtin; refine wpList_add1 rfl rfl Try.underlying59 info_i64c rfl (Nat.le_refl 1) hown rfl hsz rfl rfl rfl ?_ ?_ ?_ ?_; simp [Value.oneCell']; (unfold maxLen; omega); omega; intro A3 c3 w3 hown3 hl3 hbk3))
      go_roundw
      case rel => exact ⟨(k : Int) - 1, O ++ [q % 2], by omega, by omega, by simp only [Hid]; rw [show ((k : Int) - 1 + 1).toNat = k by omega]; exact HX.out, by simp; omega, by go_num, by simpa using hown3, hl3.below (Nat.le_refl _) hb⟩
      case measure => (simp [intOf]; try omega)
    · have hOe : O = cword c n := by
        have := hO.out
        rw [show (i + 1).toNat = 0 by omega] at this
        simpa [cword] using this
      have F := Lib.hid hOe
      clear hOe
      go_wp2
      go_ret
      exact ⟨A, O.length, d, rfl, by rw [← F.out]; exact hown, hb⟩
theorem cword_any (c x : Int) (w : World) (hc0 : 0 ≤ c) (hc1 : c ≤ 32768 * 320) (hx0 : 0 ≤ x) (hx1 : x ≤ 15) :
    Calls Try.prog 103 #[.int .i64 c, .int .i64 x] w fun e w' => ∃ A q d, e = .returned (.slice A q d) ∧ RowsIn w' w'.heap.size A q d (fun z => [.int .i64 z]) 1 (cword c x.toNat) ∧ Below w.heap.size w w' :=
  (cword_own c x w hc0 hc1 hx0 hx1).mono fun _ _ ⟨A, q, d, he, ho, hb⟩ => ⟨A, q, d, he, own_intsC ho, hb⟩
end Go.Proofs.Ytfhgglghofhndaa
